/-
  BulletinIssued answers true for every input. Its conditions: none. (One heavy walk.)
-/
import Derived.Test.YtmbdlnimegdigaaRows
import Derived.Test.YtmbdlnimegdigaaRowS
import Derived.Test.YtmbdlnimegdigaaBulG
import Derived.Test.YtmbdlnimegdigaaBulK
import Derived.Test.YtmbdlnimegdigaaBulP
import Derived.Test.YtmbdlnimegdigaaBulV
import Derived.Test.YtmbdlnimegdigaaBulI
import Derived.Test.YtmbdlnimegdigaaRegA
import Derived.Test.YtmbdlnimegdigaaReg
namespace Go.Proofs.Ytmbdlnimegdigaa
open Go.ChangeShapes Go.WideShapes Go.ChangeAt Go.RowKit

set_option maxRecDepth 100000 in
set_option maxHeartbeats 40000000 in
theorem bulletinIssued_any (w : World) (lA : Option Addr) (ln lc : Nat) (l : List Bu) (l1 : ln ≤ lc) (l2 : lc ≤ maxLen) (lr : Buls w w.heap.size lA ln l) (lw : ∀ b ∈ l, BuW b) (b : Bu) (bA : Option Addr) (bc : Nat) (b1 : b.zs.length ≤ bc) (b2 : bc ≤ maxLen) (br : Ints w w.heap.size bA b.zs.length b.zs) (bw : BuW b) (pz pl ph pt : Int) (wpz : (Lit.int .i64 pz).wf = true) (wpl : (Lit.int .i64 pl).wf = true) (wph : (Lit.int .i64 ph).wf = true) (wpt : (Lit.int .i64 pt).wf = true) :
    Calls Try.prog 8 #[.slice lA ln lc, .agg #[.int .i64 b.ver, .int .i64 b.fr, .int .i64 b.ti, .int .i64 b.lo, .int .i64 b.hi, .slice bA b.zs.length bc, .int .i64 b.lev], .agg #[.int .i64 pz, .int .i64 pl, .int .i64 ph, .int .i64 pt]] w fun e w' => e = .returned (.bool true) ∧ Below w.heap.size w w' := by
  have HR0 := Lib.hid lr
  have HB0 : Hid (Below w.heap.size w w) := hide (Below.refl _ _)
  have HL := Lib.hid lr.len
  clear lr
  have hln : ln ≤ maxLen := Nat.le_trans l1 l2
  obtain ⟨ver, fr, ti, lo, hi, lev, zs⟩ := b
  obtain ⟨bn, hbn⟩ : ∃ bn, zs.length = bn := ⟨_, rfl⟩
  simp only at b1 br ⊢
  rw [hbn] at b1 br ⊢
  have HZ0 : Hid (Ints w w.heap.size bA bn zs) := hide br
  have HBn := Lib.hid hbn
  clear br hbn
  obtain ⟨r, hr⟩ : ∃ r, rightB l = r := ⟨_, rfl⟩
  have HF := Lib.hid hr
  have hbm := Nat.le_trans b1 b2
  clear hr lw bw
  have HCur : Hid (∀ (A : Option Addr) (n c : Nat) (bs : List Bu) (W : World) (v : Int), Buls W W.heap.size A n bs → n ≤ maxLen → curN bs pt = v → Calls Try.prog 17 #[.slice A n c, .int .i64 pt] W fun e w' => e = .returned (.int .i64 v) ∧ Below W.heap.size W w') := fun A n c bs W v h1 h2 h3 => h3 ▸ cur_any A n c bs pt W h1 h2
  have HWor : Hid (∀ (A : Option Addr) (n c : Nat) (bs : List Bu) (W : World) (v : Int), Buls W W.heap.size A n bs → n ≤ maxLen → worN bs pt = v → Calls Try.prog 21 #[.slice A n c, .int .i64 pt] W fun e w' => e = .returned (.int .i64 v) ∧ Below W.heap.size W w') := fun A n c bs W v h1 h2 h3 => h3 ▸ wor_any A n c bs pt W h1 h2
  have HLev : Hid (∀ (A : Option Addr) (n c : Nat) (bs : List Bu) (W : World) (v : Int), Buls W W.heap.size A n bs → n ≤ maxLen → levN bs pz pl ph pt = v → Calls Try.prog 19 #[.slice A n c, .agg #[.int .i64 pz, .int .i64 pl, .int .i64 ph, .int .i64 pt]] W fun e w' => e = .returned (.int .i64 v) ∧ Below W.heap.size W w') := fun A n c bs W v h1 h2 h3 => by have h := level_any A n c bs pz pl ph pt W h1 h2; rw [h3] at h; exact h
  go_enter Try.func8, Try.ntmps8
  obtain ⟨w0, rfl⟩ : ∃ w0 : World, w0 = w := ⟨_, rfl⟩
  go_wp2_with
    (first
     | (refine wpList_box_blk rfl 31 (.tmp 1) rfl #[.int .i64 ver, .int .i64 fr, .int .i64 ti, .int .i64 lo, .int .i64 hi, .slice bA bn bc, .int .i64 lev] rfl ?_
        intro w1 hx1 hb1 hsz1
        have HX1 := Lib.hid hx1
        have HB1 := Lib.hid (HB0.out.trans (hb1.mono HB0.out.size))
        have HR1 := Lib.hid (HR0.out.now hb1)
        have HZ1 := Lib.hid (HZ0.out.now hb1)
        clear hx1 hb1 hsz1)
     | (refine wpList_box_blk rfl 37 (.tmp 2) rfl #[.int .i64 pz, .int .i64 pl, .int .i64 ph, .int .i64 pt] rfl ?_
        intro w2 hx2 hb2 hsz2
        have HP2 := Lib.hid hx2
        have HB2 := Lib.hid (HB1.out.trans (hb2.mono HB1.out.size))
        have HR2 := Lib.hid (HR1.out.now hb2)
        have HZ2 := Lib.hid (HZ1.out.now hb2)
        have HX2 := Lib.hid (HX1.out.below hb2 HX1.out.lt)
        clear hx2 hb2 hsz2))
  with_reducible refine (alive_any _).mono ?_
  rintro e w3 ⟨rfl, hb3⟩
  have HB3 := Lib.hid (HB2.out.trans (hb3.mono HB2.out.size))
  have HR3 := Lib.hid (HR2.out.now hb3)
  have HZ3 := Lib.hid (HZ2.out.now hb3)
  have HX3 := Lib.hid (HX2.out.below hb3 HX2.out.lt)
  have HP3 := Lib.hid (HP2.out.below hb3 HP2.out.lt)
  clear hb3
  go_upto_if 38 with (fail)
  go_cut [38] (fun s wx => ∃ q : Bool, s = .bool q ∧ Below w3.heap.size w3 wx ∧ (q = true ∨ (q = false ∧ rightB l = true ∧ bn ≤ 100 ∧ ∀ c ∈ l, c.ver < ver)))
  case first =>
    have HX3d := Lib.hid HX3.out.drew
    have HP3d := Lib.hid HP3.out.drew
    have HB3d := Lib.hid HB3.out.drew
    have HZ3d : Hid (Ints w3.drew w3.drew.heap.size _ _ zs) := hide HZ3.out
    have HR3d : Hid (Buls w3.drew w3.drew.heap.size _ _ l) := hide HR3.out
    cases r with
    | false =>
      refine wp_region_held_drew (S := fun W => (Buls W W.heap.size lA ln l) ∧ Blk W w0.heap.size 31 #[.int .i64 ver, .int .i64 fr, .int .i64 ti, .int .i64 lo, .int .i64 hi, .slice bA bn bc, .int .i64 lev] ∧ Blk W w1.heap.size 37 #[.int .i64 pz, .int .i64 pl, .int .i64 ph, .int .i64 pt] ∧ Below w0.heap.size w0 W ∧ Ints W W.heap.size bA bn zs ∧ W.cell? ⟨w0.heap.size, 0, none⟩ = some (.int .i64 ver) ∧ W.cell? ⟨w0.heap.size, 1, none⟩ = some (.int .i64 fr) ∧ W.cell? ⟨w0.heap.size, 2, none⟩ = some (.int .i64 ti) ∧ W.cell? ⟨w0.heap.size, 3, none⟩ = some (.int .i64 lo) ∧ W.cell? ⟨w0.heap.size, 4, none⟩ = some (.int .i64 hi) ∧ W.cell? ⟨w0.heap.size, 5, none⟩ = some (.slice bA bn bc) ∧ W.cell? ⟨w0.heap.size, 6, none⟩ = some (.int .i64 lev) ∧ W.cell? ⟨w1.heap.size, 0, none⟩ = some (.int .i64 pz) ∧ W.cell? ⟨w1.heap.size, 1, none⟩ = some (.int .i64 pl) ∧ W.cell? ⟨w1.heap.size, 2, none⟩ = some (.int .i64 ph) ∧ W.cell? ⟨w1.heap.size, 3, none⟩ = some (.int .i64 pt)) (by kernel_rfl) (⟨HR3d.out, HX3d.out, HP3d.out, HB3d.out, HZ3d.out, HX3d.out.cell 0, HX3d.out.cell 1, HX3d.out.cell 2, HX3d.out.cell 3, HX3d.out.cell 4, HX3d.out.cell 5, HX3d.out.cell 6, HP3d.out.cell 0, HP3d.out.cell 1, HP3d.out.cell 2, HP3d.out.cell 3⟩) (fun hHeld => ?_)
      refine held_run 0 (some 13) (.move (.tmp 0)) ?v3_1_0 (by rfl) (by kernel_rfl) (by kernel_rfl) (by kernel_rfl) (fun _ _ _ h => h) (fun o ho w hS => ?y3_1_0) (by assumption) ?r3_1_0
      case y3_1_0 => (try dsimp only at hS); unfold execOp; simp only [ho]; go_simp; try with_reducible rfl
      try simp only [Act.put, List.setIfInBounds_toArray, List.set_cons_zero, List.set_cons_succ]
      refine held_call 1 (some 14) 13 [(.tmp 13)] #[22] #[.slice lA ln lc] (by rfl) (by rfl) (by kernel_rfl) Try.func13 (by rfl) (by rfl) ?_
      refine (rgt_any _ _ _ _ false _ HR3d.out HF.out).mono ?_
      rintro e w4 ⟨rfl, hb4⟩
      have HD4 : Hid (Below w3.heap.size w3 w4) := hide ((Below.refl w3.heap.size w3).drew.trans hb4)
      have HB4 := Lib.hid (HB3d.out.trans (hb4.mono HB3d.out.size))
      have HR4 := Lib.hid (HR3d.out.now hb4)
      have HZ4 := Lib.hid (HZ3d.out.now hb4)
      have HX4 := Lib.hid (HX3d.out.below hb4 HX3d.out.lt)
      have HP4 := Lib.hid (HP3d.out.below hb4 HP3d.out.lt)
      have hH4 : (fun W => (Buls W W.heap.size lA ln l) ∧ Blk W w0.heap.size 31 #[.int .i64 ver, .int .i64 fr, .int .i64 ti, .int .i64 lo, .int .i64 hi, .slice bA bn bc, .int .i64 lev] ∧ Blk W w1.heap.size 37 #[.int .i64 pz, .int .i64 pl, .int .i64 ph, .int .i64 pt] ∧ Below w0.heap.size w0 W ∧ Ints W W.heap.size bA bn zs ∧ W.cell? ⟨w0.heap.size, 0, none⟩ = some (.int .i64 ver) ∧ W.cell? ⟨w0.heap.size, 1, none⟩ = some (.int .i64 fr) ∧ W.cell? ⟨w0.heap.size, 2, none⟩ = some (.int .i64 ti) ∧ W.cell? ⟨w0.heap.size, 3, none⟩ = some (.int .i64 lo) ∧ W.cell? ⟨w0.heap.size, 4, none⟩ = some (.int .i64 hi) ∧ W.cell? ⟨w0.heap.size, 5, none⟩ = some (.slice bA bn bc) ∧ W.cell? ⟨w0.heap.size, 6, none⟩ = some (.int .i64 lev) ∧ W.cell? ⟨w1.heap.size, 0, none⟩ = some (.int .i64 pz) ∧ W.cell? ⟨w1.heap.size, 1, none⟩ = some (.int .i64 pl) ∧ W.cell? ⟨w1.heap.size, 2, none⟩ = some (.int .i64 ph) ∧ W.cell? ⟨w1.heap.size, 3, none⟩ = some (.int .i64 pt)) w4 := ⟨HR4.out, HX4.out, HP4.out, HB4.out, HZ4.out, HX4.out.cell 0, HX4.out.cell 1, HX4.out.cell 2, HX4.out.cell 3, HX4.out.cell 4, HX4.out.cell 5, HX4.out.cell 6, HP4.out.cell 0, HP4.out.cell 1, HP4.out.cell 2, HP4.out.cell 3⟩
      refine ⟨_, rfl, hH4, ?_⟩
      clear hb4
      try simp only [Act.put, List.setIfInBounds_toArray, List.set_cons_zero, List.set_cons_succ]
      refine held_run 2 (some 15) (.unOp .not 4 (.tmp 14)) ?v3_1_2 (by rfl) (by kernel_rfl) (by kernel_rfl) (by kernel_rfl) (fun _ _ _ h => h) (fun o ho w hS => ?y3_1_2) (by assumption) ?r3_1_2
      case y3_1_2 => (try dsimp only at hS); unfold execOp; simp only [ho]; go_simp; try with_reducible rfl
      try simp only [Act.put, List.setIfInBounds_toArray, List.set_cons_zero, List.set_cons_succ]
      refine held_run 3 (some 16) (.move (.tmp 15)) ?v3_1_3 (by rfl) (by kernel_rfl) (by kernel_rfl) (by kernel_rfl) (fun _ _ _ h => h) (fun o ho w hS => ?y3_1_3) (by assumption) ?r3_1_3
      case y3_1_3 => (try dsimp only at hS); unfold execOp; simp only [ho]; go_simp; try with_reducible rfl
      try simp only [Act.put, List.setIfInBounds_toArray, List.set_cons_zero, List.set_cons_succ]
      refine held_skip 4 (some 17) (by rfl) (by kernel_rfl) (by kernel_rfl) (by kernel_rfl) (fun _ _ _ h => h) (by assumption) ?_
      try simp only [Act.put, List.setIfInBounds_toArray, List.set_cons_zero, List.set_cons_succ]
      refine held_skip 5 (some 18) (by rfl) (by kernel_rfl) (by kernel_rfl) (by kernel_rfl) (fun _ _ _ h => h) (by assumption) ?_
      try simp only [Act.put, List.setIfInBounds_toArray, List.set_cons_zero, List.set_cons_succ]
      refine held_skip 6 (some 19) (by rfl) (by kernel_rfl) (by kernel_rfl) (by kernel_rfl) (fun _ _ _ h => h) (by assumption) ?_
      try simp only [Act.put, List.setIfInBounds_toArray, List.set_cons_zero, List.set_cons_succ]
      refine held_skip 7 (some 20) (by rfl) (by kernel_rfl) (by kernel_rfl) (by kernel_rfl) (fun _ _ _ h => h) (by assumption) ?_
      try simp only [Act.put, List.setIfInBounds_toArray, List.set_cons_zero, List.set_cons_succ]
      refine held_run 8 (some 21) (.pick (.tmp 16) (.const (Value.bool true)) (.tmp 20)) ?v3_1_8 (by rfl) (by kernel_rfl) (by kernel_rfl) (by kernel_rfl) (fun _ _ _ h => h) (fun o ho w hS => ?y3_1_8) (by assumption) ?r3_1_8
      case y3_1_8 => (try dsimp only at hS); unfold execOp; simp only [ho]; go_simp; try with_reducible rfl
      try simp only [Act.put, List.setIfInBounds_toArray, List.set_cons_zero, List.set_cons_succ]
      refine held_run 9 (some 22) (.move (.tmp 21)) ?v3_1_9 (by rfl) (by kernel_rfl) (by kernel_rfl) (by kernel_rfl) (fun _ _ _ h => h) (fun o ho w hS => ?y3_1_9) (by assumption) ?r3_1_9
      case y3_1_9 => (try dsimp only at hS); unfold execOp; simp only [ho]; go_simp; try with_reducible rfl
      try simp only [Act.put, List.setIfInBounds_toArray, List.set_cons_zero, List.set_cons_succ]
      refine held_skip 10 (some 23) (by rfl) (by kernel_rfl) (by kernel_rfl) (by kernel_rfl) (fun _ _ _ h => h) (by assumption) ?_
      try simp only [Act.put, List.setIfInBounds_toArray, List.set_cons_zero, List.set_cons_succ]
      refine held_skip 11 (some 24) (by rfl) (by kernel_rfl) (by kernel_rfl) (by kernel_rfl) (fun _ _ _ h => h) (by assumption) ?_
      try simp only [Act.put, List.setIfInBounds_toArray, List.set_cons_zero, List.set_cons_succ]
      refine held_skip 12 (some 25) (by rfl) (by kernel_rfl) (by kernel_rfl) (by kernel_rfl) (fun _ _ _ h => h) (by assumption) ?_
      try simp only [Act.put, List.setIfInBounds_toArray, List.set_cons_zero, List.set_cons_succ]
      refine held_skip 13 (some 26) (by rfl) (by kernel_rfl) (by kernel_rfl) (by kernel_rfl) (fun _ _ _ h => h) (by assumption) ?_
      try simp only [Act.put, List.setIfInBounds_toArray, List.set_cons_zero, List.set_cons_succ]
      refine held_skip 14 (some 27) (by rfl) (by kernel_rfl) (by kernel_rfl) (by kernel_rfl) (fun _ _ _ h => h) (by assumption) ?_
      try simp only [Act.put, List.setIfInBounds_toArray, List.set_cons_zero, List.set_cons_succ]
      refine held_skip 15 (some 28) (by rfl) (by kernel_rfl) (by kernel_rfl) (by kernel_rfl) (fun _ _ _ h => h) (by assumption) ?_
      try simp only [Act.put, List.setIfInBounds_toArray, List.set_cons_zero, List.set_cons_succ]
      refine held_skip 16 (some 29) (by rfl) (by kernel_rfl) (by kernel_rfl) (by kernel_rfl) (fun _ _ _ h => h) (by assumption) ?_
      try simp only [Act.put, List.setIfInBounds_toArray, List.set_cons_zero, List.set_cons_succ]
      refine held_skip 17 (some 30) (by rfl) (by kernel_rfl) (by kernel_rfl) (by kernel_rfl) (fun _ _ _ h => h) (by assumption) ?_
      try simp only [Act.put, List.setIfInBounds_toArray, List.set_cons_zero, List.set_cons_succ]
      refine held_skip 18 (some 31) (by rfl) (by kernel_rfl) (by kernel_rfl) (by kernel_rfl) (fun _ _ _ h => h) (by assumption) ?_
      try simp only [Act.put, List.setIfInBounds_toArray, List.set_cons_zero, List.set_cons_succ]
      refine held_skip 19 (some 32) (by rfl) (by kernel_rfl) (by kernel_rfl) (by kernel_rfl) (fun _ _ _ h => h) (by assumption) ?_
      try simp only [Act.put, List.setIfInBounds_toArray, List.set_cons_zero, List.set_cons_succ]
      refine held_skip 20 (some 33) (by rfl) (by kernel_rfl) (by kernel_rfl) (by kernel_rfl) (fun _ _ _ h => h) (by assumption) ?_
      try simp only [Act.put, List.setIfInBounds_toArray, List.set_cons_zero, List.set_cons_succ]
      refine held_skip 21 (some 34) (by rfl) (by kernel_rfl) (by kernel_rfl) (by kernel_rfl) (fun _ _ _ h => h) (by assumption) ?_
      try simp only [Act.put, List.setIfInBounds_toArray, List.set_cons_zero, List.set_cons_succ]
      refine held_skip 22 (some 35) (by rfl) (by kernel_rfl) (by kernel_rfl) (by kernel_rfl) (fun _ _ _ h => h) (by assumption) ?_
      try simp only [Act.put, List.setIfInBounds_toArray, List.set_cons_zero, List.set_cons_succ]
      refine held_skip 23 (some 36) (by rfl) (by kernel_rfl) (by kernel_rfl) (by kernel_rfl) (fun _ _ _ h => h) (by assumption) ?_
      try simp only [Act.put, List.setIfInBounds_toArray, List.set_cons_zero, List.set_cons_succ]
      refine held_skip 24 (some 37) (by rfl) (by kernel_rfl) (by kernel_rfl) (by kernel_rfl) (fun _ _ _ h => h) (by assumption) ?_
      try simp only [Act.put, List.setIfInBounds_toArray, List.set_cons_zero, List.set_cons_succ]
      refine held_run 25 (some 38) (.pick (.tmp 22) (.const (Value.bool true)) (.tmp 37)) ?v3_1_25 (by rfl) (by kernel_rfl) (by kernel_rfl) (by kernel_rfl) (fun _ _ _ h => h) (fun o ho w hS => ?y3_1_25) (by assumption) ?r3_1_25
      case y3_1_25 => (try dsimp only at hS); unfold execOp; simp only [ho]; go_simp; try with_reducible rfl
      try simp only [Act.put, List.setIfInBounds_toArray, List.set_cons_zero, List.set_cons_succ]
      refine wpAnyH_done (by kernel_rfl) ?_ _
      go_wp2_with fail
      go_meet
      exact ⟨true, rfl, HD4.out, .inl rfl⟩
    | true =>
      by_cases h100 : 100 < bn
      · have d1 : decide ((bn : Int) > 100) = true := decide_eq_true (by omega)
        refine wp_region_held_drew (S := fun W => (Buls W W.heap.size lA ln l) ∧ Blk W w0.heap.size 31 #[.int .i64 ver, .int .i64 fr, .int .i64 ti, .int .i64 lo, .int .i64 hi, .slice bA bn bc, .int .i64 lev] ∧ Blk W w1.heap.size 37 #[.int .i64 pz, .int .i64 pl, .int .i64 ph, .int .i64 pt] ∧ Below w0.heap.size w0 W ∧ Ints W W.heap.size bA bn zs ∧ W.cell? ⟨w0.heap.size, 0, none⟩ = some (.int .i64 ver) ∧ W.cell? ⟨w0.heap.size, 1, none⟩ = some (.int .i64 fr) ∧ W.cell? ⟨w0.heap.size, 2, none⟩ = some (.int .i64 ti) ∧ W.cell? ⟨w0.heap.size, 3, none⟩ = some (.int .i64 lo) ∧ W.cell? ⟨w0.heap.size, 4, none⟩ = some (.int .i64 hi) ∧ W.cell? ⟨w0.heap.size, 5, none⟩ = some (.slice bA bn bc) ∧ W.cell? ⟨w0.heap.size, 6, none⟩ = some (.int .i64 lev) ∧ W.cell? ⟨w1.heap.size, 0, none⟩ = some (.int .i64 pz) ∧ W.cell? ⟨w1.heap.size, 1, none⟩ = some (.int .i64 pl) ∧ W.cell? ⟨w1.heap.size, 2, none⟩ = some (.int .i64 ph) ∧ W.cell? ⟨w1.heap.size, 3, none⟩ = some (.int .i64 pt)) (by kernel_rfl) (⟨HR3d.out, HX3d.out, HP3d.out, HB3d.out, HZ3d.out, HX3d.out.cell 0, HX3d.out.cell 1, HX3d.out.cell 2, HX3d.out.cell 3, HX3d.out.cell 4, HX3d.out.cell 5, HX3d.out.cell 6, HP3d.out.cell 0, HP3d.out.cell 1, HP3d.out.cell 2, HP3d.out.cell 3⟩) (fun hHeld => ?_)
        refine held_run 0 (some 13) (.move (.tmp 0)) ?v3_2_0 (by rfl) (by kernel_rfl) (by kernel_rfl) (by kernel_rfl) (fun _ _ _ h => h) (fun o ho w hS => ?y3_2_0) (by assumption) ?r3_2_0
        case y3_2_0 => (try dsimp only at hS); unfold execOp; simp only [ho]; go_simp; try with_reducible rfl
        try simp only [Act.put, List.setIfInBounds_toArray, List.set_cons_zero, List.set_cons_succ]
        refine held_call 1 (some 14) 13 [(.tmp 13)] #[22] #[.slice lA ln lc] (by rfl) (by rfl) (by kernel_rfl) Try.func13 (by rfl) (by rfl) ?_
        refine (rgt_any _ _ _ _ true _ HR3d.out HF.out).mono ?_
        rintro e w4 ⟨rfl, hb4⟩
        have HD4 : Hid (Below w3.heap.size w3 w4) := hide ((Below.refl w3.heap.size w3).drew.trans hb4)
        have HB4 := Lib.hid (HB3d.out.trans (hb4.mono HB3d.out.size))
        have HR4 := Lib.hid (HR3d.out.now hb4)
        have HZ4 := Lib.hid (HZ3d.out.now hb4)
        have HX4 := Lib.hid (HX3d.out.below hb4 HX3d.out.lt)
        have HP4 := Lib.hid (HP3d.out.below hb4 HP3d.out.lt)
        have hH4 : (fun W => (Buls W W.heap.size lA ln l) ∧ Blk W w0.heap.size 31 #[.int .i64 ver, .int .i64 fr, .int .i64 ti, .int .i64 lo, .int .i64 hi, .slice bA bn bc, .int .i64 lev] ∧ Blk W w1.heap.size 37 #[.int .i64 pz, .int .i64 pl, .int .i64 ph, .int .i64 pt] ∧ Below w0.heap.size w0 W ∧ Ints W W.heap.size bA bn zs ∧ W.cell? ⟨w0.heap.size, 0, none⟩ = some (.int .i64 ver) ∧ W.cell? ⟨w0.heap.size, 1, none⟩ = some (.int .i64 fr) ∧ W.cell? ⟨w0.heap.size, 2, none⟩ = some (.int .i64 ti) ∧ W.cell? ⟨w0.heap.size, 3, none⟩ = some (.int .i64 lo) ∧ W.cell? ⟨w0.heap.size, 4, none⟩ = some (.int .i64 hi) ∧ W.cell? ⟨w0.heap.size, 5, none⟩ = some (.slice bA bn bc) ∧ W.cell? ⟨w0.heap.size, 6, none⟩ = some (.int .i64 lev) ∧ W.cell? ⟨w1.heap.size, 0, none⟩ = some (.int .i64 pz) ∧ W.cell? ⟨w1.heap.size, 1, none⟩ = some (.int .i64 pl) ∧ W.cell? ⟨w1.heap.size, 2, none⟩ = some (.int .i64 ph) ∧ W.cell? ⟨w1.heap.size, 3, none⟩ = some (.int .i64 pt)) w4 := ⟨HR4.out, HX4.out, HP4.out, HB4.out, HZ4.out, HX4.out.cell 0, HX4.out.cell 1, HX4.out.cell 2, HX4.out.cell 3, HX4.out.cell 4, HX4.out.cell 5, HX4.out.cell 6, HP4.out.cell 0, HP4.out.cell 1, HP4.out.cell 2, HP4.out.cell 3⟩
        refine ⟨_, rfl, hH4, ?_⟩
        clear hb4
        try simp only [Act.put, List.setIfInBounds_toArray, List.set_cons_zero, List.set_cons_succ]
        refine held_run 2 (some 15) (.unOp .not 4 (.tmp 14)) ?v3_2_2 (by rfl) (by kernel_rfl) (by kernel_rfl) (by kernel_rfl) (fun _ _ _ h => h) (fun o ho w hS => ?y3_2_2) (by assumption) ?r3_2_2
        case y3_2_2 => (try dsimp only at hS); unfold execOp; simp only [ho]; go_simp; try with_reducible rfl
        try simp only [Act.put, List.setIfInBounds_toArray, List.set_cons_zero, List.set_cons_succ]
        refine held_run 3 (some 16) (.move (.tmp 15)) ?v3_2_3 (by rfl) (by kernel_rfl) (by kernel_rfl) (by kernel_rfl) (fun _ _ _ h => h) (fun o ho w hS => ?y3_2_3) (by assumption) ?r3_2_3
        case y3_2_3 => (try dsimp only at hS); unfold execOp; simp only [ho]; go_simp; try with_reducible rfl
        try simp only [Act.put, List.setIfInBounds_toArray, List.set_cons_zero, List.set_cons_succ]
        refine held_run 4 (some 17) (.fieldAddr 31 (.tmp 4) 4) ?v3_2_4 (by rfl) (by kernel_rfl) (by kernel_rfl) (by kernel_rfl) (fun _ _ _ h => h) (fun o ho w hS => ?y3_2_4) (by assumption) ?r3_2_4
        case y3_2_4 => (try dsimp only at hS); unfold execOp; simp only [ho]; go_simp; try with_reducible rfl
        try simp only [Act.put, List.setIfInBounds_toArray, List.set_cons_zero, List.set_cons_succ]
        refine held_run 5 (some 18) (.load 29 (.tmp 17)) ?v3_2_5 (by rfl) (by kernel_rfl) (by kernel_rfl) (by kernel_rfl) (fun _ _ _ h => h) (fun o ho w hS => ?y3_2_5) (by assumption) ?r3_2_5
        case y3_2_5 => (try dsimp only at hS); unfold execOp; simp only [ho]; go_simp; try with_reducible rfl
        try simp only [Act.put, List.setIfInBounds_toArray, List.set_cons_zero, List.set_cons_succ]
        refine held_run 6 (some 19) (.call { callee := .builtin .len, args := #[(.tmp 18)], argTypes := #[29] }) ?v3_2_6 (by rfl) (by kernel_rfl) (by kernel_rfl) (by kernel_rfl) (fun _ _ _ h => h) (fun o ho w hS => ?y3_2_6) (by assumption) ?r3_2_6
        case y3_2_6 => (try dsimp only at hS); unfold execOp; simp only [ho]; go_simp; try with_reducible rfl
        try simp only [Act.put, List.setIfInBounds_toArray, List.set_cons_zero, List.set_cons_succ]
        refine held_run 7 (some 20) (.binOp .gtr 3 (.tmp 19) (.const (.int .i64 100)) 3) ?v3_2_7 (by rfl) (by kernel_rfl) (by kernel_rfl) (by kernel_rfl) (fun _ _ _ h => h) (fun o ho w hS => ?y3_2_7) (by assumption) ?r3_2_7
        case y3_2_7 => (try dsimp only at hS); unfold execOp; simp only [ho]; go_simp; try with_reducible rfl
        try simp only [Act.put, List.setIfInBounds_toArray, List.set_cons_zero, List.set_cons_succ]
        refine held_run 8 (some 21) (.pick (.tmp 16) (.const (Value.bool true)) (.tmp 20)) ?v3_2_8 (by rfl) (by kernel_rfl) (by kernel_rfl) (by kernel_rfl) (fun _ _ _ h => h) (fun o ho w hS => ?y3_2_8) (by assumption) ?r3_2_8
        case y3_2_8 => (try dsimp only at hS); unfold execOp; simp only [ho]; go_simp; try with_reducible rfl
        try simp only [Act.put, List.setIfInBounds_toArray, List.set_cons_zero, List.set_cons_succ]
        refine held_run 9 (some 22) (.move (.tmp 21)) ?v3_2_9 (by rfl) (by kernel_rfl) (by kernel_rfl) (by kernel_rfl) (fun _ _ _ h => h) (fun o ho w hS => ?y3_2_9) (by assumption) ?r3_2_9
        case y3_2_9 => (try dsimp only at hS); unfold execOp; simp only [ho]; go_simp; try with_reducible rfl
        try simp only [Act.put, List.setIfInBounds_toArray, List.set_cons_zero, List.set_cons_succ]
        refine held_skip 10 (some 23) (by rfl) (by kernel_rfl) (by kernel_rfl) (by kernel_rfl) (fun _ _ _ h => h) (by assumption) ?_
        try simp only [Act.put, List.setIfInBounds_toArray, List.set_cons_zero, List.set_cons_succ]
        refine held_skip 11 (some 24) (by rfl) (by kernel_rfl) (by kernel_rfl) (by kernel_rfl) (fun _ _ _ h => h) (by assumption) ?_
        try simp only [Act.put, List.setIfInBounds_toArray, List.set_cons_zero, List.set_cons_succ]
        refine held_skip 12 (some 25) (by rfl) (by kernel_rfl) (by kernel_rfl) (by kernel_rfl) (fun _ _ _ h => h) (by assumption) ?_
        try simp only [Act.put, List.setIfInBounds_toArray, List.set_cons_zero, List.set_cons_succ]
        refine held_skip 13 (some 26) (by rfl) (by kernel_rfl) (by kernel_rfl) (by kernel_rfl) (fun _ _ _ h => h) (by assumption) ?_
        try simp only [Act.put, List.setIfInBounds_toArray, List.set_cons_zero, List.set_cons_succ]
        refine held_skip 14 (some 27) (by rfl) (by kernel_rfl) (by kernel_rfl) (by kernel_rfl) (fun _ _ _ h => h) (by assumption) ?_
        try simp only [Act.put, List.setIfInBounds_toArray, List.set_cons_zero, List.set_cons_succ]
        refine held_skip 15 (some 28) (by rfl) (by kernel_rfl) (by kernel_rfl) (by kernel_rfl) (fun _ _ _ h => h) (by assumption) ?_
        try simp only [Act.put, List.setIfInBounds_toArray, List.set_cons_zero, List.set_cons_succ]
        refine held_skip 16 (some 29) (by rfl) (by kernel_rfl) (by kernel_rfl) (by kernel_rfl) (fun _ _ _ h => h) (by assumption) ?_
        try simp only [Act.put, List.setIfInBounds_toArray, List.set_cons_zero, List.set_cons_succ]
        refine held_skip 17 (some 30) (by rfl) (by kernel_rfl) (by kernel_rfl) (by kernel_rfl) (fun _ _ _ h => h) (by assumption) ?_
        try simp only [Act.put, List.setIfInBounds_toArray, List.set_cons_zero, List.set_cons_succ]
        refine held_skip 18 (some 31) (by rfl) (by kernel_rfl) (by kernel_rfl) (by kernel_rfl) (fun _ _ _ h => h) (by assumption) ?_
        try simp only [Act.put, List.setIfInBounds_toArray, List.set_cons_zero, List.set_cons_succ]
        refine held_skip 19 (some 32) (by rfl) (by kernel_rfl) (by kernel_rfl) (by kernel_rfl) (fun _ _ _ h => h) (by assumption) ?_
        try simp only [Act.put, List.setIfInBounds_toArray, List.set_cons_zero, List.set_cons_succ]
        refine held_skip 20 (some 33) (by rfl) (by kernel_rfl) (by kernel_rfl) (by kernel_rfl) (fun _ _ _ h => h) (by assumption) ?_
        try simp only [Act.put, List.setIfInBounds_toArray, List.set_cons_zero, List.set_cons_succ]
        refine held_skip 21 (some 34) (by rfl) (by kernel_rfl) (by kernel_rfl) (by kernel_rfl) (fun _ _ _ h => h) (by assumption) ?_
        try simp only [Act.put, List.setIfInBounds_toArray, List.set_cons_zero, List.set_cons_succ]
        refine held_skip 22 (some 35) (by rfl) (by kernel_rfl) (by kernel_rfl) (by kernel_rfl) (fun _ _ _ h => h) (by assumption) ?_
        try simp only [Act.put, List.setIfInBounds_toArray, List.set_cons_zero, List.set_cons_succ]
        refine held_skip 23 (some 36) (by rfl) (by kernel_rfl) (by kernel_rfl) (by kernel_rfl) (fun _ _ _ h => h) (by assumption) ?_
        try simp only [Act.put, List.setIfInBounds_toArray, List.set_cons_zero, List.set_cons_succ]
        refine held_skip 24 (some 37) (by rfl) (by kernel_rfl) (by kernel_rfl) (by kernel_rfl) (fun _ _ _ h => h) (by assumption) ?_
        try simp only [Act.put, List.setIfInBounds_toArray, List.set_cons_zero, List.set_cons_succ]
        refine held_run 25 (some 38) (.pick (.tmp 22) (.const (Value.bool true)) (.tmp 37)) ?v3_2_25 (by rfl) (by kernel_rfl) (by kernel_rfl) (by kernel_rfl) (fun _ _ _ h => h) (fun o ho w hS => ?y3_2_25) (by assumption) ?r3_2_25
        case y3_2_25 => (try dsimp only at hS); unfold execOp; simp only [ho]; go_simp; try with_reducible rfl
        try simp only [Act.put, List.setIfInBounds_toArray, List.set_cons_zero, List.set_cons_succ]
        refine wpAnyH_done (by kernel_rfl) ?_ _
        clear d1
        go_wp2_with fail
        go_meet
        exact ⟨true, rfl, HD4.out, .inl rfl⟩
      have d1 : decide ((bn : Int) > 100) = false := decide_eq_false (by omega)
      have hF : fewB l = true ∧ rightN l = 0 := by have h := HF.out; simpa [rightB] using h
      have hfew : ∀ {l : List Bu} {n : Nat}, fewB l = true → l.length = n → n ≤ 100 ∧ ∀ b ∈ l, b.zs.length ≤ 1000 := by
        intro l n h hl
        simp only [fewB, Bool.and_eq_true, decide_eq_true_eq, List.all_eq_true] at h
        exact ⟨by omega, fun b hb => by have := h.2 b hb; omega⟩
      obtain ⟨hn, hz⟩ := hfew hF.1 HL.out
      have HZs := Lib.hid hz
      have HRn := Lib.hid hF.2
      clear hz hfew hF
      have HV : ln = 0 ∨ 0 < ln := by omega
      rcases HV with h0 | h0
      · have d2 : decide ((ln : Int) > 0) = false := decide_eq_false (by omega)
        have HOld : Hid (∀ c ∈ l, c.ver < ver) := hide (fun c hc => by rw [List.length_eq_zero_iff.1 (HL.out.trans h0)] at hc; cases hc)
        have d2b : decide (0 < ln) = false := decide_eq_false (by omega)
        clear h0
        refine wp_region_held_drew (S := fun W => (Buls W W.heap.size lA ln l) ∧ Blk W w0.heap.size 31 #[.int .i64 ver, .int .i64 fr, .int .i64 ti, .int .i64 lo, .int .i64 hi, .slice bA bn bc, .int .i64 lev] ∧ Blk W w1.heap.size 37 #[.int .i64 pz, .int .i64 pl, .int .i64 ph, .int .i64 pt] ∧ Below w0.heap.size w0 W ∧ Ints W W.heap.size bA bn zs ∧ W.cell? ⟨w0.heap.size, 0, none⟩ = some (.int .i64 ver) ∧ W.cell? ⟨w0.heap.size, 1, none⟩ = some (.int .i64 fr) ∧ W.cell? ⟨w0.heap.size, 2, none⟩ = some (.int .i64 ti) ∧ W.cell? ⟨w0.heap.size, 3, none⟩ = some (.int .i64 lo) ∧ W.cell? ⟨w0.heap.size, 4, none⟩ = some (.int .i64 hi) ∧ W.cell? ⟨w0.heap.size, 5, none⟩ = some (.slice bA bn bc) ∧ W.cell? ⟨w0.heap.size, 6, none⟩ = some (.int .i64 lev) ∧ W.cell? ⟨w1.heap.size, 0, none⟩ = some (.int .i64 pz) ∧ W.cell? ⟨w1.heap.size, 1, none⟩ = some (.int .i64 pl) ∧ W.cell? ⟨w1.heap.size, 2, none⟩ = some (.int .i64 ph) ∧ W.cell? ⟨w1.heap.size, 3, none⟩ = some (.int .i64 pt)) (by kernel_rfl) (⟨HR3d.out, HX3d.out, HP3d.out, HB3d.out, HZ3d.out, HX3d.out.cell 0, HX3d.out.cell 1, HX3d.out.cell 2, HX3d.out.cell 3, HX3d.out.cell 4, HX3d.out.cell 5, HX3d.out.cell 6, HP3d.out.cell 0, HP3d.out.cell 1, HP3d.out.cell 2, HP3d.out.cell 3⟩) (fun hHeld => ?_)
        refine held_run 0 (some 13) (.move (.tmp 0)) ?v3_3_0 (by rfl) (by kernel_rfl) (by kernel_rfl) (by kernel_rfl) (fun _ _ _ h => h) (fun o ho w hS => ?y3_3_0) (by assumption) ?r3_3_0
        case y3_3_0 => (try dsimp only at hS); unfold execOp; simp only [ho]; go_simp; try with_reducible rfl
        try simp only [Act.put, List.setIfInBounds_toArray, List.set_cons_zero, List.set_cons_succ]
        refine held_call 1 (some 14) 13 [(.tmp 13)] #[22] #[.slice lA ln lc] (by rfl) (by rfl) (by kernel_rfl) Try.func13 (by rfl) (by rfl) ?_
        refine (rgt_any _ _ _ _ true _ HR3d.out HF.out).mono ?_
        rintro e w4 ⟨rfl, hb4⟩
        have HD4 : Hid (Below w3.heap.size w3 w4) := hide ((Below.refl w3.heap.size w3).drew.trans hb4)
        have HB4 := Lib.hid (HB3d.out.trans (hb4.mono HB3d.out.size))
        have HR4 := Lib.hid (HR3d.out.now hb4)
        have HZ4 := Lib.hid (HZ3d.out.now hb4)
        have HX4 := Lib.hid (HX3d.out.below hb4 HX3d.out.lt)
        have HP4 := Lib.hid (HP3d.out.below hb4 HP3d.out.lt)
        have hH4 : (fun W => (Buls W W.heap.size lA ln l) ∧ Blk W w0.heap.size 31 #[.int .i64 ver, .int .i64 fr, .int .i64 ti, .int .i64 lo, .int .i64 hi, .slice bA bn bc, .int .i64 lev] ∧ Blk W w1.heap.size 37 #[.int .i64 pz, .int .i64 pl, .int .i64 ph, .int .i64 pt] ∧ Below w0.heap.size w0 W ∧ Ints W W.heap.size bA bn zs ∧ W.cell? ⟨w0.heap.size, 0, none⟩ = some (.int .i64 ver) ∧ W.cell? ⟨w0.heap.size, 1, none⟩ = some (.int .i64 fr) ∧ W.cell? ⟨w0.heap.size, 2, none⟩ = some (.int .i64 ti) ∧ W.cell? ⟨w0.heap.size, 3, none⟩ = some (.int .i64 lo) ∧ W.cell? ⟨w0.heap.size, 4, none⟩ = some (.int .i64 hi) ∧ W.cell? ⟨w0.heap.size, 5, none⟩ = some (.slice bA bn bc) ∧ W.cell? ⟨w0.heap.size, 6, none⟩ = some (.int .i64 lev) ∧ W.cell? ⟨w1.heap.size, 0, none⟩ = some (.int .i64 pz) ∧ W.cell? ⟨w1.heap.size, 1, none⟩ = some (.int .i64 pl) ∧ W.cell? ⟨w1.heap.size, 2, none⟩ = some (.int .i64 ph) ∧ W.cell? ⟨w1.heap.size, 3, none⟩ = some (.int .i64 pt)) w4 := ⟨HR4.out, HX4.out, HP4.out, HB4.out, HZ4.out, HX4.out.cell 0, HX4.out.cell 1, HX4.out.cell 2, HX4.out.cell 3, HX4.out.cell 4, HX4.out.cell 5, HX4.out.cell 6, HP4.out.cell 0, HP4.out.cell 1, HP4.out.cell 2, HP4.out.cell 3⟩
        refine ⟨_, rfl, hH4, ?_⟩
        clear hb4
        try simp only [Act.put, List.setIfInBounds_toArray, List.set_cons_zero, List.set_cons_succ]
        refine held_run 2 (some 15) (.unOp .not 4 (.tmp 14)) ?v3_3_2 (by rfl) (by kernel_rfl) (by kernel_rfl) (by kernel_rfl) (fun _ _ _ h => h) (fun o ho w hS => ?y3_3_2) (by assumption) ?r3_3_2
        case y3_3_2 => (try dsimp only at hS); unfold execOp; simp only [ho]; go_simp; try with_reducible rfl
        try simp only [Act.put, List.setIfInBounds_toArray, List.set_cons_zero, List.set_cons_succ]
        refine held_run 3 (some 16) (.move (.tmp 15)) ?v3_3_3 (by rfl) (by kernel_rfl) (by kernel_rfl) (by kernel_rfl) (fun _ _ _ h => h) (fun o ho w hS => ?y3_3_3) (by assumption) ?r3_3_3
        case y3_3_3 => (try dsimp only at hS); unfold execOp; simp only [ho]; go_simp; try with_reducible rfl
        try simp only [Act.put, List.setIfInBounds_toArray, List.set_cons_zero, List.set_cons_succ]
        refine held_run 4 (some 17) (.fieldAddr 31 (.tmp 4) 4) ?v3_3_4 (by rfl) (by kernel_rfl) (by kernel_rfl) (by kernel_rfl) (fun _ _ _ h => h) (fun o ho w hS => ?y3_3_4) (by assumption) ?r3_3_4
        case y3_3_4 => (try dsimp only at hS); unfold execOp; simp only [ho]; go_simp; try with_reducible rfl
        try simp only [Act.put, List.setIfInBounds_toArray, List.set_cons_zero, List.set_cons_succ]
        refine held_run 5 (some 18) (.load 29 (.tmp 17)) ?v3_3_5 (by rfl) (by kernel_rfl) (by kernel_rfl) (by kernel_rfl) (fun _ _ _ h => h) (fun o ho w hS => ?y3_3_5) (by assumption) ?r3_3_5
        case y3_3_5 => (try dsimp only at hS); unfold execOp; simp only [ho]; go_simp; try with_reducible rfl
        try simp only [Act.put, List.setIfInBounds_toArray, List.set_cons_zero, List.set_cons_succ]
        refine held_run 6 (some 19) (.call { callee := .builtin .len, args := #[(.tmp 18)], argTypes := #[29] }) ?v3_3_6 (by rfl) (by kernel_rfl) (by kernel_rfl) (by kernel_rfl) (fun _ _ _ h => h) (fun o ho w hS => ?y3_3_6) (by assumption) ?r3_3_6
        case y3_3_6 => (try dsimp only at hS); unfold execOp; simp only [ho]; go_simp; try with_reducible rfl
        try simp only [Act.put, List.setIfInBounds_toArray, List.set_cons_zero, List.set_cons_succ]
        refine held_run 7 (some 20) (.binOp .gtr 3 (.tmp 19) (.const (.int .i64 100)) 3) ?v3_3_7 (by rfl) (by kernel_rfl) (by kernel_rfl) (by kernel_rfl) (fun _ _ _ h => h) (fun o ho w hS => ?y3_3_7) (by assumption) ?r3_3_7
        case y3_3_7 => (try dsimp only at hS); unfold execOp; simp only [ho]; go_simp; try with_reducible rfl
        try simp only [Act.put, List.setIfInBounds_toArray, List.set_cons_zero, List.set_cons_succ]
        refine held_run 8 (some 21) (.pick (.tmp 16) (.const (Value.bool true)) (.tmp 20)) ?v3_3_8 (by rfl) (by kernel_rfl) (by kernel_rfl) (by kernel_rfl) (fun _ _ _ h => h) (fun o ho w hS => ?y3_3_8) (by assumption) ?r3_3_8
        case y3_3_8 => (try dsimp only at hS); unfold execOp; simp only [ho]; go_simp; try with_reducible rfl
        try simp only [Act.put, List.setIfInBounds_toArray, List.set_cons_zero, List.set_cons_succ]
        refine held_run 9 (some 22) (.move (.tmp 21)) ?v3_3_9 (by rfl) (by kernel_rfl) (by kernel_rfl) (by kernel_rfl) (fun _ _ _ h => h) (fun o ho w hS => ?y3_3_9) (by assumption) ?r3_3_9
        case y3_3_9 => (try dsimp only at hS); unfold execOp; simp only [ho]; go_simp; try with_reducible rfl
        try simp only [Act.put, List.setIfInBounds_toArray, List.set_cons_zero, List.set_cons_succ]
        refine held_run 10 (some 23) (.move (.tmp 0)) ?v3_3_10 (by rfl) (by kernel_rfl) (by kernel_rfl) (by kernel_rfl) (fun _ _ _ h => h) (fun o ho w hS => ?y3_3_10) (by assumption) ?r3_3_10
        case y3_3_10 => (try dsimp only at hS); unfold execOp; simp only [ho]; go_simp; try with_reducible rfl
        try simp only [Act.put, List.setIfInBounds_toArray, List.set_cons_zero, List.set_cons_succ]
        refine held_run 11 (some 24) (.call { callee := .builtin .len, args := #[(.tmp 23)], argTypes := #[22] }) ?v3_3_11 (by rfl) (by kernel_rfl) (by kernel_rfl) (by kernel_rfl) (fun _ _ _ h => h) (fun o ho w hS => ?y3_3_11) (by assumption) ?r3_3_11
        case y3_3_11 => (try dsimp only at hS); unfold execOp; simp only [ho]; go_simp; try with_reducible rfl
        try simp only [Act.put, List.setIfInBounds_toArray, List.set_cons_zero, List.set_cons_succ]
        refine held_run 12 (some 25) (.binOp .gtr 3 (.tmp 24) (.const (.int .i64 0)) 3) ?v3_3_12 (by rfl) (by kernel_rfl) (by kernel_rfl) (by kernel_rfl) (fun _ _ _ h => h) (fun o ho w hS => ?y3_3_12) (by assumption) ?r3_3_12
        case y3_3_12 => (try dsimp only at hS); unfold execOp; simp only [ho]; go_simp; try with_reducible rfl
        try simp only [Act.put, List.setIfInBounds_toArray, List.set_cons_zero, List.set_cons_succ]
        refine held_run 13 (some 26) (.move (.tmp 25)) ?v3_3_13 (by rfl) (by kernel_rfl) (by kernel_rfl) (by kernel_rfl) (fun _ _ _ h => h) (fun o ho w hS => ?y3_3_13) (by assumption) ?r3_3_13
        case y3_3_13 => (try dsimp only at hS); unfold execOp; simp only [ho]; go_simp; try with_reducible rfl
        try simp only [Act.put, List.setIfInBounds_toArray, List.set_cons_zero, List.set_cons_succ]
        refine held_skip 14 (some 27) (by rfl) (by kernel_rfl) (by kernel_rfl) (by kernel_rfl) (fun _ _ _ h => h) (by assumption) ?_
        try simp only [Act.put, List.setIfInBounds_toArray, List.set_cons_zero, List.set_cons_succ]
        refine held_skip 15 (some 28) (by rfl) (by kernel_rfl) (by kernel_rfl) (by kernel_rfl) (fun _ _ _ h => h) (by assumption) ?_
        try simp only [Act.put, List.setIfInBounds_toArray, List.set_cons_zero, List.set_cons_succ]
        refine held_skip 16 (some 29) (by rfl) (by kernel_rfl) (by kernel_rfl) (by kernel_rfl) (fun _ _ _ h => h) (by assumption) ?_
        try simp only [Act.put, List.setIfInBounds_toArray, List.set_cons_zero, List.set_cons_succ]
        refine held_skip 17 (some 30) (by rfl) (by kernel_rfl) (by kernel_rfl) (by kernel_rfl) (fun _ _ _ h => h) (by assumption) ?_
        try simp only [Act.put, List.setIfInBounds_toArray, List.set_cons_zero, List.set_cons_succ]
        refine held_skip 18 (some 31) (by rfl) (by kernel_rfl) (by kernel_rfl) (by kernel_rfl) (fun _ _ _ h => h) (by assumption) ?_
        try simp only [Act.put, List.setIfInBounds_toArray, List.set_cons_zero, List.set_cons_succ]
        refine held_skip 19 (some 32) (by rfl) (by kernel_rfl) (by kernel_rfl) (by kernel_rfl) (fun _ _ _ h => h) (by assumption) ?_
        try simp only [Act.put, List.setIfInBounds_toArray, List.set_cons_zero, List.set_cons_succ]
        refine held_skip 20 (some 33) (by rfl) (by kernel_rfl) (by kernel_rfl) (by kernel_rfl) (fun _ _ _ h => h) (by assumption) ?_
        try simp only [Act.put, List.setIfInBounds_toArray, List.set_cons_zero, List.set_cons_succ]
        refine held_skip 21 (some 34) (by rfl) (by kernel_rfl) (by kernel_rfl) (by kernel_rfl) (fun _ _ _ h => h) (by assumption) ?_
        try simp only [Act.put, List.setIfInBounds_toArray, List.set_cons_zero, List.set_cons_succ]
        refine held_skip 22 (some 35) (by rfl) (by kernel_rfl) (by kernel_rfl) (by kernel_rfl) (fun _ _ _ h => h) (by assumption) ?_
        try simp only [Act.put, List.setIfInBounds_toArray, List.set_cons_zero, List.set_cons_succ]
        refine held_skip 23 (some 36) (by rfl) (by kernel_rfl) (by kernel_rfl) (by kernel_rfl) (fun _ _ _ h => h) (by assumption) ?_
        try simp only [Act.put, List.setIfInBounds_toArray, List.set_cons_zero, List.set_cons_succ]
        refine held_run 24 (some 37) (.pick (.tmp 26) (.tmp 36) (.const (Value.bool false))) ?v3_3_24 (by rfl) (by kernel_rfl) (by kernel_rfl) (by kernel_rfl) (fun _ _ _ h => h) (fun o ho w hS => ?y3_3_24) (by assumption) ?r3_3_24
        case y3_3_24 => (try dsimp only at hS); unfold execOp; simp only [ho]; go_simp; try with_reducible rfl
        try simp only [Act.put, List.setIfInBounds_toArray, List.set_cons_zero, List.set_cons_succ]
        refine held_run 25 (some 38) (.pick (.tmp 22) (.const (Value.bool true)) (.tmp 37)) ?v3_3_25 (by rfl) (by kernel_rfl) (by kernel_rfl) (by kernel_rfl) (fun _ _ _ h => h) (fun o ho w hS => ?y3_3_25) (by assumption) ?r3_3_25
        case y3_3_25 => (try dsimp only at hS); unfold execOp; simp only [ho]; go_simp; try with_reducible rfl
        try simp only [Act.put, List.setIfInBounds_toArray, List.set_cons_zero, List.set_cons_succ]
        refine wpAnyH_done (by kernel_rfl) ?_ _
        clear d1 d2 d2b
        go_wp2_with fail
        go_meet
        exact ⟨false, rfl, HD4.out, .inr ⟨rfl, HF.out, by omega, HOld.out⟩⟩
      · have d2 : decide ((ln : Int) > 0) = true := decide_eq_true (by omega)
        obtain ⟨m, rfl⟩ : ∃ m, ln = m + 1 := ⟨ln - 1, by omega⟩
        obtain ⟨ad, z, rfl, hab, hcs, _⟩ := HR3.out.at_ (show m < m + 1 by omega)
        have hj : ((m + 1 : Nat) : Int) - 1 = (m : Int) := by omega
        have hmi : (m : Int) < (m : Int) + 1 := by omega
        obtain ⟨lv, hlv⟩ : ∃ v, (l.getD m ⟨0, 0, 0, 0, 0, 0, []⟩).ver = v := ⟨_, rfl⟩
        have HLast : Hid (w3.cell? (ad.add (m * 7)) = some (.int .i64 lv)) := by
          have h := hcs 0 _ rfl
          rw [show (ad.add (m * 7)).add 0 = ad.add (m * 7) by unfold Addr.add; simp, hlv] at h
          exact h
        clear hcs
        have HNV : Hid (lv < ver → ∀ c ∈ l, c.ver < ver) := hide (fun h => new_ver (b := ⟨ver, fr, ti, lo, hi, lev, zs⟩) HRn.out (Or.inr (by rw [HL.out, Nat.add_sub_cancel, hlv]; exact h)))
        clear hlv
        have hwr : IntKind.i64.wrap (m : Int) = (m : Int) := IntWalk.i64_in _ (by unfold maxLen at hln; omega)
        have HLast3d : Hid (w3.drew.cell? (ad.add (m * 7)) = some (.int .i64 lv)) := hide HLast.out
        by_cases hle : ver ≤ lv
        · have d3 : decide (ver ≤ lv) = true := decide_eq_true hle
          refine wp_region_held_drew (S := fun W => (Buls W W.heap.size (some ad) (m + 1) l) ∧ Blk W w0.heap.size 31 #[.int .i64 ver, .int .i64 fr, .int .i64 ti, .int .i64 lo, .int .i64 hi, .slice bA bn bc, .int .i64 lev] ∧ Blk W w1.heap.size 37 #[.int .i64 pz, .int .i64 pl, .int .i64 ph, .int .i64 pt] ∧ Below w0.heap.size w0 W ∧ Ints W W.heap.size bA bn zs ∧ W.cell? ⟨w0.heap.size, 0, none⟩ = some (.int .i64 ver) ∧ W.cell? ⟨w0.heap.size, 1, none⟩ = some (.int .i64 fr) ∧ W.cell? ⟨w0.heap.size, 2, none⟩ = some (.int .i64 ti) ∧ W.cell? ⟨w0.heap.size, 3, none⟩ = some (.int .i64 lo) ∧ W.cell? ⟨w0.heap.size, 4, none⟩ = some (.int .i64 hi) ∧ W.cell? ⟨w0.heap.size, 5, none⟩ = some (.slice bA bn bc) ∧ W.cell? ⟨w0.heap.size, 6, none⟩ = some (.int .i64 lev) ∧ W.cell? ⟨w1.heap.size, 0, none⟩ = some (.int .i64 pz) ∧ W.cell? ⟨w1.heap.size, 1, none⟩ = some (.int .i64 pl) ∧ W.cell? ⟨w1.heap.size, 2, none⟩ = some (.int .i64 ph) ∧ W.cell? ⟨w1.heap.size, 3, none⟩ = some (.int .i64 pt) ∧ W.cell? (ad.add (m * 7)) = some (.int .i64 lv)) (by kernel_rfl) (⟨HR3d.out, HX3d.out, HP3d.out, HB3d.out, HZ3d.out, HX3d.out.cell 0, HX3d.out.cell 1, HX3d.out.cell 2, HX3d.out.cell 3, HX3d.out.cell 4, HX3d.out.cell 5, HX3d.out.cell 6, HP3d.out.cell 0, HP3d.out.cell 1, HP3d.out.cell 2, HP3d.out.cell 3, HLast3d.out⟩) (fun hHeld => ?_)
          refine held_run 0 (some 13) (.move (.tmp 0)) ?v3_4_0 (by rfl) (by kernel_rfl) (by kernel_rfl) (by kernel_rfl) (fun _ _ _ h => h) (fun o ho w hS => ?y3_4_0) (by assumption) ?r3_4_0
          case y3_4_0 => (try dsimp only at hS); unfold execOp; simp only [ho]; go_simp; try with_reducible rfl
          try simp only [Act.put, List.setIfInBounds_toArray, List.set_cons_zero, List.set_cons_succ]
          refine held_call 1 (some 14) 13 [(.tmp 13)] #[22] #[.slice (some ad) (m + 1) lc] (by rfl) (by rfl) (by kernel_rfl) Try.func13 (by rfl) (by rfl) ?_
          refine (rgt_any _ _ _ _ true _ HR3d.out HF.out).mono ?_
          rintro e w4 ⟨rfl, hb4⟩
          have HD4 : Hid (Below w3.heap.size w3 w4) := hide ((Below.refl w3.heap.size w3).drew.trans hb4)
          have HB4 := Lib.hid (HB3d.out.trans (hb4.mono HB3d.out.size))
          have HR4 := Lib.hid (HR3d.out.now hb4)
          have HZ4 := Lib.hid (HZ3d.out.now hb4)
          have HX4 := Lib.hid (HX3d.out.below hb4 HX3d.out.lt)
          have HP4 := Lib.hid (HP3d.out.below hb4 HP3d.out.lt)
          have HLast4 : Hid (w4.cell? (ad.add (m * 7)) = some (.int .i64 lv)) := hide ((hb4.cell (by rw [block_of_add]; exact hab)).trans HLast3d.out)
          have hH4 : (fun W => (Buls W W.heap.size (some ad) (m + 1) l) ∧ Blk W w0.heap.size 31 #[.int .i64 ver, .int .i64 fr, .int .i64 ti, .int .i64 lo, .int .i64 hi, .slice bA bn bc, .int .i64 lev] ∧ Blk W w1.heap.size 37 #[.int .i64 pz, .int .i64 pl, .int .i64 ph, .int .i64 pt] ∧ Below w0.heap.size w0 W ∧ Ints W W.heap.size bA bn zs ∧ W.cell? ⟨w0.heap.size, 0, none⟩ = some (.int .i64 ver) ∧ W.cell? ⟨w0.heap.size, 1, none⟩ = some (.int .i64 fr) ∧ W.cell? ⟨w0.heap.size, 2, none⟩ = some (.int .i64 ti) ∧ W.cell? ⟨w0.heap.size, 3, none⟩ = some (.int .i64 lo) ∧ W.cell? ⟨w0.heap.size, 4, none⟩ = some (.int .i64 hi) ∧ W.cell? ⟨w0.heap.size, 5, none⟩ = some (.slice bA bn bc) ∧ W.cell? ⟨w0.heap.size, 6, none⟩ = some (.int .i64 lev) ∧ W.cell? ⟨w1.heap.size, 0, none⟩ = some (.int .i64 pz) ∧ W.cell? ⟨w1.heap.size, 1, none⟩ = some (.int .i64 pl) ∧ W.cell? ⟨w1.heap.size, 2, none⟩ = some (.int .i64 ph) ∧ W.cell? ⟨w1.heap.size, 3, none⟩ = some (.int .i64 pt) ∧ W.cell? (ad.add (m * 7)) = some (.int .i64 lv)) w4 := ⟨HR4.out, HX4.out, HP4.out, HB4.out, HZ4.out, HX4.out.cell 0, HX4.out.cell 1, HX4.out.cell 2, HX4.out.cell 3, HX4.out.cell 4, HX4.out.cell 5, HX4.out.cell 6, HP4.out.cell 0, HP4.out.cell 1, HP4.out.cell 2, HP4.out.cell 3, HLast4.out⟩
          refine ⟨_, rfl, hH4, ?_⟩
          clear hb4
          try simp only [Act.put, List.setIfInBounds_toArray, List.set_cons_zero, List.set_cons_succ]
          refine held_run 2 (some 15) (.unOp .not 4 (.tmp 14)) ?v3_4_2 (by rfl) (by kernel_rfl) (by kernel_rfl) (by kernel_rfl) (fun _ _ _ h => h) (fun o ho w hS => ?y3_4_2) (by assumption) ?r3_4_2
          case y3_4_2 => (try dsimp only at hS); unfold execOp; simp only [ho]; go_simp; try with_reducible rfl
          try simp only [Act.put, List.setIfInBounds_toArray, List.set_cons_zero, List.set_cons_succ]
          refine held_run 3 (some 16) (.move (.tmp 15)) ?v3_4_3 (by rfl) (by kernel_rfl) (by kernel_rfl) (by kernel_rfl) (fun _ _ _ h => h) (fun o ho w hS => ?y3_4_3) (by assumption) ?r3_4_3
          case y3_4_3 => (try dsimp only at hS); unfold execOp; simp only [ho]; go_simp; try with_reducible rfl
          try simp only [Act.put, List.setIfInBounds_toArray, List.set_cons_zero, List.set_cons_succ]
          refine held_run 4 (some 17) (.fieldAddr 31 (.tmp 4) 4) ?v3_4_4 (by rfl) (by kernel_rfl) (by kernel_rfl) (by kernel_rfl) (fun _ _ _ h => h) (fun o ho w hS => ?y3_4_4) (by assumption) ?r3_4_4
          case y3_4_4 => (try dsimp only at hS); unfold execOp; simp only [ho]; go_simp; try with_reducible rfl
          try simp only [Act.put, List.setIfInBounds_toArray, List.set_cons_zero, List.set_cons_succ]
          refine held_run 5 (some 18) (.load 29 (.tmp 17)) ?v3_4_5 (by rfl) (by kernel_rfl) (by kernel_rfl) (by kernel_rfl) (fun _ _ _ h => h) (fun o ho w hS => ?y3_4_5) (by assumption) ?r3_4_5
          case y3_4_5 => (try dsimp only at hS); unfold execOp; simp only [ho]; go_simp; try with_reducible rfl
          try simp only [Act.put, List.setIfInBounds_toArray, List.set_cons_zero, List.set_cons_succ]
          refine held_run 6 (some 19) (.call { callee := .builtin .len, args := #[(.tmp 18)], argTypes := #[29] }) ?v3_4_6 (by rfl) (by kernel_rfl) (by kernel_rfl) (by kernel_rfl) (fun _ _ _ h => h) (fun o ho w hS => ?y3_4_6) (by assumption) ?r3_4_6
          case y3_4_6 => (try dsimp only at hS); unfold execOp; simp only [ho]; go_simp; try with_reducible rfl
          try simp only [Act.put, List.setIfInBounds_toArray, List.set_cons_zero, List.set_cons_succ]
          refine held_run 7 (some 20) (.binOp .gtr 3 (.tmp 19) (.const (.int .i64 100)) 3) ?v3_4_7 (by rfl) (by kernel_rfl) (by kernel_rfl) (by kernel_rfl) (fun _ _ _ h => h) (fun o ho w hS => ?y3_4_7) (by assumption) ?r3_4_7
          case y3_4_7 => (try dsimp only at hS); unfold execOp; simp only [ho]; go_simp; try with_reducible rfl
          try simp only [Act.put, List.setIfInBounds_toArray, List.set_cons_zero, List.set_cons_succ]
          refine held_run 8 (some 21) (.pick (.tmp 16) (.const (Value.bool true)) (.tmp 20)) ?v3_4_8 (by rfl) (by kernel_rfl) (by kernel_rfl) (by kernel_rfl) (fun _ _ _ h => h) (fun o ho w hS => ?y3_4_8) (by assumption) ?r3_4_8
          case y3_4_8 => (try dsimp only at hS); unfold execOp; simp only [ho]; go_simp; try with_reducible rfl
          try simp only [Act.put, List.setIfInBounds_toArray, List.set_cons_zero, List.set_cons_succ]
          refine held_run 9 (some 22) (.move (.tmp 21)) ?v3_4_9 (by rfl) (by kernel_rfl) (by kernel_rfl) (by kernel_rfl) (fun _ _ _ h => h) (fun o ho w hS => ?y3_4_9) (by assumption) ?r3_4_9
          case y3_4_9 => (try dsimp only at hS); unfold execOp; simp only [ho]; go_simp; try with_reducible rfl
          try simp only [Act.put, List.setIfInBounds_toArray, List.set_cons_zero, List.set_cons_succ]
          refine held_run 10 (some 23) (.move (.tmp 0)) ?v3_4_10 (by rfl) (by kernel_rfl) (by kernel_rfl) (by kernel_rfl) (fun _ _ _ h => h) (fun o ho w hS => ?y3_4_10) (by assumption) ?r3_4_10
          case y3_4_10 => (try dsimp only at hS); unfold execOp; simp only [ho]; go_simp; try with_reducible rfl
          try simp only [Act.put, List.setIfInBounds_toArray, List.set_cons_zero, List.set_cons_succ]
          refine held_run 11 (some 24) (.call { callee := .builtin .len, args := #[(.tmp 23)], argTypes := #[22] }) ?v3_4_11 (by rfl) (by kernel_rfl) (by kernel_rfl) (by kernel_rfl) (fun _ _ _ h => h) (fun o ho w hS => ?y3_4_11) (by assumption) ?r3_4_11
          case y3_4_11 => (try dsimp only at hS); unfold execOp; simp only [ho]; go_simp; try with_reducible rfl
          try simp only [Act.put, List.setIfInBounds_toArray, List.set_cons_zero, List.set_cons_succ]
          refine held_run 12 (some 25) (.binOp .gtr 3 (.tmp 24) (.const (.int .i64 0)) 3) ?v3_4_12 (by rfl) (by kernel_rfl) (by kernel_rfl) (by kernel_rfl) (fun _ _ _ h => h) (fun o ho w hS => ?y3_4_12) (by assumption) ?r3_4_12
          case y3_4_12 => (try dsimp only at hS); unfold execOp; simp only [ho]; go_simp; try with_reducible rfl
          try simp only [Act.put, List.setIfInBounds_toArray, List.set_cons_zero, List.set_cons_succ]
          refine held_run 13 (some 26) (.move (.tmp 25)) ?v3_4_13 (by rfl) (by kernel_rfl) (by kernel_rfl) (by kernel_rfl) (fun _ _ _ h => h) (fun o ho w hS => ?y3_4_13) (by assumption) ?r3_4_13
          case y3_4_13 => (try dsimp only at hS); unfold execOp; simp only [ho]; go_simp; try with_reducible rfl
          try simp only [Act.put, List.setIfInBounds_toArray, List.set_cons_zero, List.set_cons_succ]
          refine held_run 14 (some 27) (.fieldAddr 31 (.tmp 4) 0) ?v3_4_14 (by rfl) (by kernel_rfl) (by kernel_rfl) (by kernel_rfl) (fun _ _ _ h => h) (fun o ho w hS => ?y3_4_14) (by assumption) ?r3_4_14
          case y3_4_14 => (try dsimp only at hS); unfold execOp; simp only [ho]; go_simp; try with_reducible rfl
          try simp only [Act.put, List.setIfInBounds_toArray, List.set_cons_zero, List.set_cons_succ]
          refine held_run 15 (some 28) (.load 3 (.tmp 27)) ?v3_4_15 (by rfl) (by kernel_rfl) (by kernel_rfl) (by kernel_rfl) (fun _ _ _ h => h) (fun o ho w hS => ?y3_4_15) (by assumption) ?r3_4_15
          case y3_4_15 => (try dsimp only at hS); unfold execOp; simp only [ho]; go_simp; try with_reducible rfl
          try simp only [Act.put, List.setIfInBounds_toArray, List.set_cons_zero, List.set_cons_succ]
          refine held_run 16 (some 29) (.move (.tmp 0)) ?v3_4_16 (by rfl) (by kernel_rfl) (by kernel_rfl) (by kernel_rfl) (fun _ _ _ h => h) (fun o ho w hS => ?y3_4_16) (by assumption) ?r3_4_16
          case y3_4_16 => (try dsimp only at hS); unfold execOp; simp only [ho]; go_simp; try with_reducible rfl
          try simp only [Act.put, List.setIfInBounds_toArray, List.set_cons_zero, List.set_cons_succ]
          refine held_run 17 (some 30) (.move (.tmp 0)) ?v3_4_17 (by rfl) (by kernel_rfl) (by kernel_rfl) (by kernel_rfl) (fun _ _ _ h => h) (fun o ho w hS => ?y3_4_17) (by assumption) ?r3_4_17
          case y3_4_17 => (try dsimp only at hS); unfold execOp; simp only [ho]; go_simp; try with_reducible rfl
          try simp only [Act.put, List.setIfInBounds_toArray, List.set_cons_zero, List.set_cons_succ]
          refine held_run 18 (some 31) (.call { callee := .builtin .len, args := #[(.tmp 30)], argTypes := #[22] }) ?v3_4_18 (by rfl) (by kernel_rfl) (by kernel_rfl) (by kernel_rfl) (fun _ _ _ h => h) (fun o ho w hS => ?y3_4_18) (by assumption) ?r3_4_18
          case y3_4_18 => (try dsimp only at hS); unfold execOp; simp only [ho]; go_simp; try with_reducible rfl
          try simp only [Act.put, List.setIfInBounds_toArray, List.set_cons_zero, List.set_cons_succ]
          refine held_run 19 (some 32) (.binOp .sub 3 (.tmp 31) (.const (.int .i64 1)) 3) ?v3_4_19 (by rfl) (by kernel_rfl) (by kernel_rfl) (by kernel_rfl) (fun _ _ _ h => h) (fun o ho w hS => ?y3_4_19) (by assumption) ?r3_4_19
          case y3_4_19 => (try dsimp only at hS); unfold execOp; simp only [ho]; go_simp; try with_reducible rfl
          try simp only [Act.put, List.setIfInBounds_toArray, List.set_cons_zero, List.set_cons_succ]
          refine held_run 20 (some 33) (.indexAddr 22 (.tmp 29) (.tmp 32)) ?v3_4_20 (by rfl) (by kernel_rfl) (by kernel_rfl) (by kernel_rfl) (fun _ _ _ h => h) (fun o ho w hS => ?y3_4_20) (by assumption) ?r3_4_20
          case y3_4_20 => (try dsimp only at hS); unfold execOp; simp only [ho]; go_simp; try with_reducible rfl
          try simp only [Act.put, List.setIfInBounds_toArray, List.set_cons_zero, List.set_cons_succ]
          refine held_run 21 (some 34) (.fieldAddr 31 (.tmp 33) 0) ?v3_4_21 (by rfl) (by kernel_rfl) (by kernel_rfl) (by kernel_rfl) (fun _ _ _ h => h) (fun o ho w hS => ?y3_4_21) (by assumption) ?r3_4_21
          case y3_4_21 => (try dsimp only at hS); unfold execOp; simp only [ho]; go_simp; try with_reducible rfl
          try simp only [Act.put, List.setIfInBounds_toArray, List.set_cons_zero, List.set_cons_succ]
          refine held_run 22 (some 35) (.load 3 (.tmp 34)) ?v3_4_22 (by rfl) (by kernel_rfl) (by kernel_rfl) (by kernel_rfl) (fun _ _ _ h => h) (fun o ho w hS => ?y3_4_22) (by assumption) ?r3_4_22
          case y3_4_22 => (try dsimp only at hS); unfold execOp; simp only [ho]; go_simp; try with_reducible rfl
          try simp only [Act.put, List.setIfInBounds_toArray, List.set_cons_zero, List.set_cons_succ]
          refine held_run 23 (some 36) (.binOp .leq 3 (.tmp 28) (.tmp 35) 3) ?v3_4_23 (by rfl) (by kernel_rfl) (by kernel_rfl) (by kernel_rfl) (fun _ _ _ h => h) (fun o ho w hS => ?y3_4_23) (by assumption) ?r3_4_23
          case y3_4_23 => (try dsimp only at hS); unfold execOp; simp only [ho]; go_simp; try with_reducible rfl
          try simp only [Act.put, List.setIfInBounds_toArray, List.set_cons_zero, List.set_cons_succ]
          refine held_run 24 (some 37) (.pick (.tmp 26) (.tmp 36) (.const (Value.bool false))) ?v3_4_24 (by rfl) (by kernel_rfl) (by kernel_rfl) (by kernel_rfl) (fun _ _ _ h => h) (fun o ho w hS => ?y3_4_24) (by assumption) ?r3_4_24
          case y3_4_24 => (try dsimp only at hS); unfold execOp; simp only [ho]; go_simp; try with_reducible rfl
          try simp only [Act.put, List.setIfInBounds_toArray, List.set_cons_zero, List.set_cons_succ]
          refine held_run 25 (some 38) (.pick (.tmp 22) (.const (Value.bool true)) (.tmp 37)) ?v3_4_25 (by rfl) (by kernel_rfl) (by kernel_rfl) (by kernel_rfl) (fun _ _ _ h => h) (fun o ho w hS => ?y3_4_25) (by assumption) ?r3_4_25
          case y3_4_25 => (try dsimp only at hS); unfold execOp; simp only [ho]; go_simp; try with_reducible rfl
          try simp only [Act.put, List.setIfInBounds_toArray, List.set_cons_zero, List.set_cons_succ]
          refine wpAnyH_done (by kernel_rfl) ?_ _
          clear d1 d2 d3 hj hwr hmi
          go_wp2_with fail
          go_meet
          exact ⟨true, rfl, HD4.out, .inl rfl⟩
        · have d3 : decide (ver ≤ lv) = false := decide_eq_false hle
          refine wp_region_held_drew (S := fun W => (Buls W W.heap.size (some ad) (m + 1) l) ∧ Blk W w0.heap.size 31 #[.int .i64 ver, .int .i64 fr, .int .i64 ti, .int .i64 lo, .int .i64 hi, .slice bA bn bc, .int .i64 lev] ∧ Blk W w1.heap.size 37 #[.int .i64 pz, .int .i64 pl, .int .i64 ph, .int .i64 pt] ∧ Below w0.heap.size w0 W ∧ Ints W W.heap.size bA bn zs ∧ W.cell? ⟨w0.heap.size, 0, none⟩ = some (.int .i64 ver) ∧ W.cell? ⟨w0.heap.size, 1, none⟩ = some (.int .i64 fr) ∧ W.cell? ⟨w0.heap.size, 2, none⟩ = some (.int .i64 ti) ∧ W.cell? ⟨w0.heap.size, 3, none⟩ = some (.int .i64 lo) ∧ W.cell? ⟨w0.heap.size, 4, none⟩ = some (.int .i64 hi) ∧ W.cell? ⟨w0.heap.size, 5, none⟩ = some (.slice bA bn bc) ∧ W.cell? ⟨w0.heap.size, 6, none⟩ = some (.int .i64 lev) ∧ W.cell? ⟨w1.heap.size, 0, none⟩ = some (.int .i64 pz) ∧ W.cell? ⟨w1.heap.size, 1, none⟩ = some (.int .i64 pl) ∧ W.cell? ⟨w1.heap.size, 2, none⟩ = some (.int .i64 ph) ∧ W.cell? ⟨w1.heap.size, 3, none⟩ = some (.int .i64 pt) ∧ W.cell? (ad.add (m * 7)) = some (.int .i64 lv)) (by kernel_rfl) (⟨HR3d.out, HX3d.out, HP3d.out, HB3d.out, HZ3d.out, HX3d.out.cell 0, HX3d.out.cell 1, HX3d.out.cell 2, HX3d.out.cell 3, HX3d.out.cell 4, HX3d.out.cell 5, HX3d.out.cell 6, HP3d.out.cell 0, HP3d.out.cell 1, HP3d.out.cell 2, HP3d.out.cell 3, HLast3d.out⟩) (fun hHeld => ?_)
          refine held_run 0 (some 13) (.move (.tmp 0)) ?v3_5_0 (by rfl) (by kernel_rfl) (by kernel_rfl) (by kernel_rfl) (fun _ _ _ h => h) (fun o ho w hS => ?y3_5_0) (by assumption) ?r3_5_0
          case y3_5_0 => (try dsimp only at hS); unfold execOp; simp only [ho]; go_simp; try with_reducible rfl
          try simp only [Act.put, List.setIfInBounds_toArray, List.set_cons_zero, List.set_cons_succ]
          refine held_call 1 (some 14) 13 [(.tmp 13)] #[22] #[.slice (some ad) (m + 1) lc] (by rfl) (by rfl) (by kernel_rfl) Try.func13 (by rfl) (by rfl) ?_
          refine (rgt_any _ _ _ _ true _ HR3d.out HF.out).mono ?_
          rintro e w4 ⟨rfl, hb4⟩
          have HD4 : Hid (Below w3.heap.size w3 w4) := hide ((Below.refl w3.heap.size w3).drew.trans hb4)
          have HB4 := Lib.hid (HB3d.out.trans (hb4.mono HB3d.out.size))
          have HR4 := Lib.hid (HR3d.out.now hb4)
          have HZ4 := Lib.hid (HZ3d.out.now hb4)
          have HX4 := Lib.hid (HX3d.out.below hb4 HX3d.out.lt)
          have HP4 := Lib.hid (HP3d.out.below hb4 HP3d.out.lt)
          have HLast4 : Hid (w4.cell? (ad.add (m * 7)) = some (.int .i64 lv)) := hide ((hb4.cell (by rw [block_of_add]; exact hab)).trans HLast3d.out)
          have hH4 : (fun W => (Buls W W.heap.size (some ad) (m + 1) l) ∧ Blk W w0.heap.size 31 #[.int .i64 ver, .int .i64 fr, .int .i64 ti, .int .i64 lo, .int .i64 hi, .slice bA bn bc, .int .i64 lev] ∧ Blk W w1.heap.size 37 #[.int .i64 pz, .int .i64 pl, .int .i64 ph, .int .i64 pt] ∧ Below w0.heap.size w0 W ∧ Ints W W.heap.size bA bn zs ∧ W.cell? ⟨w0.heap.size, 0, none⟩ = some (.int .i64 ver) ∧ W.cell? ⟨w0.heap.size, 1, none⟩ = some (.int .i64 fr) ∧ W.cell? ⟨w0.heap.size, 2, none⟩ = some (.int .i64 ti) ∧ W.cell? ⟨w0.heap.size, 3, none⟩ = some (.int .i64 lo) ∧ W.cell? ⟨w0.heap.size, 4, none⟩ = some (.int .i64 hi) ∧ W.cell? ⟨w0.heap.size, 5, none⟩ = some (.slice bA bn bc) ∧ W.cell? ⟨w0.heap.size, 6, none⟩ = some (.int .i64 lev) ∧ W.cell? ⟨w1.heap.size, 0, none⟩ = some (.int .i64 pz) ∧ W.cell? ⟨w1.heap.size, 1, none⟩ = some (.int .i64 pl) ∧ W.cell? ⟨w1.heap.size, 2, none⟩ = some (.int .i64 ph) ∧ W.cell? ⟨w1.heap.size, 3, none⟩ = some (.int .i64 pt) ∧ W.cell? (ad.add (m * 7)) = some (.int .i64 lv)) w4 := ⟨HR4.out, HX4.out, HP4.out, HB4.out, HZ4.out, HX4.out.cell 0, HX4.out.cell 1, HX4.out.cell 2, HX4.out.cell 3, HX4.out.cell 4, HX4.out.cell 5, HX4.out.cell 6, HP4.out.cell 0, HP4.out.cell 1, HP4.out.cell 2, HP4.out.cell 3, HLast4.out⟩
          refine ⟨_, rfl, hH4, ?_⟩
          clear hb4
          try simp only [Act.put, List.setIfInBounds_toArray, List.set_cons_zero, List.set_cons_succ]
          refine held_run 2 (some 15) (.unOp .not 4 (.tmp 14)) ?v3_5_2 (by rfl) (by kernel_rfl) (by kernel_rfl) (by kernel_rfl) (fun _ _ _ h => h) (fun o ho w hS => ?y3_5_2) (by assumption) ?r3_5_2
          case y3_5_2 => (try dsimp only at hS); unfold execOp; simp only [ho]; go_simp; try with_reducible rfl
          try simp only [Act.put, List.setIfInBounds_toArray, List.set_cons_zero, List.set_cons_succ]
          refine held_run 3 (some 16) (.move (.tmp 15)) ?v3_5_3 (by rfl) (by kernel_rfl) (by kernel_rfl) (by kernel_rfl) (fun _ _ _ h => h) (fun o ho w hS => ?y3_5_3) (by assumption) ?r3_5_3
          case y3_5_3 => (try dsimp only at hS); unfold execOp; simp only [ho]; go_simp; try with_reducible rfl
          try simp only [Act.put, List.setIfInBounds_toArray, List.set_cons_zero, List.set_cons_succ]
          refine held_run 4 (some 17) (.fieldAddr 31 (.tmp 4) 4) ?v3_5_4 (by rfl) (by kernel_rfl) (by kernel_rfl) (by kernel_rfl) (fun _ _ _ h => h) (fun o ho w hS => ?y3_5_4) (by assumption) ?r3_5_4
          case y3_5_4 => (try dsimp only at hS); unfold execOp; simp only [ho]; go_simp; try with_reducible rfl
          try simp only [Act.put, List.setIfInBounds_toArray, List.set_cons_zero, List.set_cons_succ]
          refine held_run 5 (some 18) (.load 29 (.tmp 17)) ?v3_5_5 (by rfl) (by kernel_rfl) (by kernel_rfl) (by kernel_rfl) (fun _ _ _ h => h) (fun o ho w hS => ?y3_5_5) (by assumption) ?r3_5_5
          case y3_5_5 => (try dsimp only at hS); unfold execOp; simp only [ho]; go_simp; try with_reducible rfl
          try simp only [Act.put, List.setIfInBounds_toArray, List.set_cons_zero, List.set_cons_succ]
          refine held_run 6 (some 19) (.call { callee := .builtin .len, args := #[(.tmp 18)], argTypes := #[29] }) ?v3_5_6 (by rfl) (by kernel_rfl) (by kernel_rfl) (by kernel_rfl) (fun _ _ _ h => h) (fun o ho w hS => ?y3_5_6) (by assumption) ?r3_5_6
          case y3_5_6 => (try dsimp only at hS); unfold execOp; simp only [ho]; go_simp; try with_reducible rfl
          try simp only [Act.put, List.setIfInBounds_toArray, List.set_cons_zero, List.set_cons_succ]
          refine held_run 7 (some 20) (.binOp .gtr 3 (.tmp 19) (.const (.int .i64 100)) 3) ?v3_5_7 (by rfl) (by kernel_rfl) (by kernel_rfl) (by kernel_rfl) (fun _ _ _ h => h) (fun o ho w hS => ?y3_5_7) (by assumption) ?r3_5_7
          case y3_5_7 => (try dsimp only at hS); unfold execOp; simp only [ho]; go_simp; try with_reducible rfl
          try simp only [Act.put, List.setIfInBounds_toArray, List.set_cons_zero, List.set_cons_succ]
          refine held_run 8 (some 21) (.pick (.tmp 16) (.const (Value.bool true)) (.tmp 20)) ?v3_5_8 (by rfl) (by kernel_rfl) (by kernel_rfl) (by kernel_rfl) (fun _ _ _ h => h) (fun o ho w hS => ?y3_5_8) (by assumption) ?r3_5_8
          case y3_5_8 => (try dsimp only at hS); unfold execOp; simp only [ho]; go_simp; try with_reducible rfl
          try simp only [Act.put, List.setIfInBounds_toArray, List.set_cons_zero, List.set_cons_succ]
          refine held_run 9 (some 22) (.move (.tmp 21)) ?v3_5_9 (by rfl) (by kernel_rfl) (by kernel_rfl) (by kernel_rfl) (fun _ _ _ h => h) (fun o ho w hS => ?y3_5_9) (by assumption) ?r3_5_9
          case y3_5_9 => (try dsimp only at hS); unfold execOp; simp only [ho]; go_simp; try with_reducible rfl
          try simp only [Act.put, List.setIfInBounds_toArray, List.set_cons_zero, List.set_cons_succ]
          refine held_run 10 (some 23) (.move (.tmp 0)) ?v3_5_10 (by rfl) (by kernel_rfl) (by kernel_rfl) (by kernel_rfl) (fun _ _ _ h => h) (fun o ho w hS => ?y3_5_10) (by assumption) ?r3_5_10
          case y3_5_10 => (try dsimp only at hS); unfold execOp; simp only [ho]; go_simp; try with_reducible rfl
          try simp only [Act.put, List.setIfInBounds_toArray, List.set_cons_zero, List.set_cons_succ]
          refine held_run 11 (some 24) (.call { callee := .builtin .len, args := #[(.tmp 23)], argTypes := #[22] }) ?v3_5_11 (by rfl) (by kernel_rfl) (by kernel_rfl) (by kernel_rfl) (fun _ _ _ h => h) (fun o ho w hS => ?y3_5_11) (by assumption) ?r3_5_11
          case y3_5_11 => (try dsimp only at hS); unfold execOp; simp only [ho]; go_simp; try with_reducible rfl
          try simp only [Act.put, List.setIfInBounds_toArray, List.set_cons_zero, List.set_cons_succ]
          refine held_run 12 (some 25) (.binOp .gtr 3 (.tmp 24) (.const (.int .i64 0)) 3) ?v3_5_12 (by rfl) (by kernel_rfl) (by kernel_rfl) (by kernel_rfl) (fun _ _ _ h => h) (fun o ho w hS => ?y3_5_12) (by assumption) ?r3_5_12
          case y3_5_12 => (try dsimp only at hS); unfold execOp; simp only [ho]; go_simp; try with_reducible rfl
          try simp only [Act.put, List.setIfInBounds_toArray, List.set_cons_zero, List.set_cons_succ]
          refine held_run 13 (some 26) (.move (.tmp 25)) ?v3_5_13 (by rfl) (by kernel_rfl) (by kernel_rfl) (by kernel_rfl) (fun _ _ _ h => h) (fun o ho w hS => ?y3_5_13) (by assumption) ?r3_5_13
          case y3_5_13 => (try dsimp only at hS); unfold execOp; simp only [ho]; go_simp; try with_reducible rfl
          try simp only [Act.put, List.setIfInBounds_toArray, List.set_cons_zero, List.set_cons_succ]
          refine held_run 14 (some 27) (.fieldAddr 31 (.tmp 4) 0) ?v3_5_14 (by rfl) (by kernel_rfl) (by kernel_rfl) (by kernel_rfl) (fun _ _ _ h => h) (fun o ho w hS => ?y3_5_14) (by assumption) ?r3_5_14
          case y3_5_14 => (try dsimp only at hS); unfold execOp; simp only [ho]; go_simp; try with_reducible rfl
          try simp only [Act.put, List.setIfInBounds_toArray, List.set_cons_zero, List.set_cons_succ]
          refine held_run 15 (some 28) (.load 3 (.tmp 27)) ?v3_5_15 (by rfl) (by kernel_rfl) (by kernel_rfl) (by kernel_rfl) (fun _ _ _ h => h) (fun o ho w hS => ?y3_5_15) (by assumption) ?r3_5_15
          case y3_5_15 => (try dsimp only at hS); unfold execOp; simp only [ho]; go_simp; try with_reducible rfl
          try simp only [Act.put, List.setIfInBounds_toArray, List.set_cons_zero, List.set_cons_succ]
          refine held_run 16 (some 29) (.move (.tmp 0)) ?v3_5_16 (by rfl) (by kernel_rfl) (by kernel_rfl) (by kernel_rfl) (fun _ _ _ h => h) (fun o ho w hS => ?y3_5_16) (by assumption) ?r3_5_16
          case y3_5_16 => (try dsimp only at hS); unfold execOp; simp only [ho]; go_simp; try with_reducible rfl
          try simp only [Act.put, List.setIfInBounds_toArray, List.set_cons_zero, List.set_cons_succ]
          refine held_run 17 (some 30) (.move (.tmp 0)) ?v3_5_17 (by rfl) (by kernel_rfl) (by kernel_rfl) (by kernel_rfl) (fun _ _ _ h => h) (fun o ho w hS => ?y3_5_17) (by assumption) ?r3_5_17
          case y3_5_17 => (try dsimp only at hS); unfold execOp; simp only [ho]; go_simp; try with_reducible rfl
          try simp only [Act.put, List.setIfInBounds_toArray, List.set_cons_zero, List.set_cons_succ]
          refine held_run 18 (some 31) (.call { callee := .builtin .len, args := #[(.tmp 30)], argTypes := #[22] }) ?v3_5_18 (by rfl) (by kernel_rfl) (by kernel_rfl) (by kernel_rfl) (fun _ _ _ h => h) (fun o ho w hS => ?y3_5_18) (by assumption) ?r3_5_18
          case y3_5_18 => (try dsimp only at hS); unfold execOp; simp only [ho]; go_simp; try with_reducible rfl
          try simp only [Act.put, List.setIfInBounds_toArray, List.set_cons_zero, List.set_cons_succ]
          refine held_run 19 (some 32) (.binOp .sub 3 (.tmp 31) (.const (.int .i64 1)) 3) ?v3_5_19 (by rfl) (by kernel_rfl) (by kernel_rfl) (by kernel_rfl) (fun _ _ _ h => h) (fun o ho w hS => ?y3_5_19) (by assumption) ?r3_5_19
          case y3_5_19 => (try dsimp only at hS); unfold execOp; simp only [ho]; go_simp; try with_reducible rfl
          try simp only [Act.put, List.setIfInBounds_toArray, List.set_cons_zero, List.set_cons_succ]
          refine held_run 20 (some 33) (.indexAddr 22 (.tmp 29) (.tmp 32)) ?v3_5_20 (by rfl) (by kernel_rfl) (by kernel_rfl) (by kernel_rfl) (fun _ _ _ h => h) (fun o ho w hS => ?y3_5_20) (by assumption) ?r3_5_20
          case y3_5_20 => (try dsimp only at hS); unfold execOp; simp only [ho]; go_simp; try with_reducible rfl
          try simp only [Act.put, List.setIfInBounds_toArray, List.set_cons_zero, List.set_cons_succ]
          refine held_run 21 (some 34) (.fieldAddr 31 (.tmp 33) 0) ?v3_5_21 (by rfl) (by kernel_rfl) (by kernel_rfl) (by kernel_rfl) (fun _ _ _ h => h) (fun o ho w hS => ?y3_5_21) (by assumption) ?r3_5_21
          case y3_5_21 => (try dsimp only at hS); unfold execOp; simp only [ho]; go_simp; try with_reducible rfl
          try simp only [Act.put, List.setIfInBounds_toArray, List.set_cons_zero, List.set_cons_succ]
          refine held_run 22 (some 35) (.load 3 (.tmp 34)) ?v3_5_22 (by rfl) (by kernel_rfl) (by kernel_rfl) (by kernel_rfl) (fun _ _ _ h => h) (fun o ho w hS => ?y3_5_22) (by assumption) ?r3_5_22
          case y3_5_22 => (try dsimp only at hS); unfold execOp; simp only [ho]; go_simp; try with_reducible rfl
          try simp only [Act.put, List.setIfInBounds_toArray, List.set_cons_zero, List.set_cons_succ]
          refine held_run 23 (some 36) (.binOp .leq 3 (.tmp 28) (.tmp 35) 3) ?v3_5_23 (by rfl) (by kernel_rfl) (by kernel_rfl) (by kernel_rfl) (fun _ _ _ h => h) (fun o ho w hS => ?y3_5_23) (by assumption) ?r3_5_23
          case y3_5_23 => (try dsimp only at hS); unfold execOp; simp only [ho]; go_simp; try with_reducible rfl
          try simp only [Act.put, List.setIfInBounds_toArray, List.set_cons_zero, List.set_cons_succ]
          refine held_run 24 (some 37) (.pick (.tmp 26) (.tmp 36) (.const (Value.bool false))) ?v3_5_24 (by rfl) (by kernel_rfl) (by kernel_rfl) (by kernel_rfl) (fun _ _ _ h => h) (fun o ho w hS => ?y3_5_24) (by assumption) ?r3_5_24
          case y3_5_24 => (try dsimp only at hS); unfold execOp; simp only [ho]; go_simp; try with_reducible rfl
          try simp only [Act.put, List.setIfInBounds_toArray, List.set_cons_zero, List.set_cons_succ]
          refine held_run 25 (some 38) (.pick (.tmp 22) (.const (Value.bool true)) (.tmp 37)) ?v3_5_25 (by rfl) (by kernel_rfl) (by kernel_rfl) (by kernel_rfl) (fun _ _ _ h => h) (fun o ho w hS => ?y3_5_25) (by assumption) ?r3_5_25
          case y3_5_25 => (try dsimp only at hS); unfold execOp; simp only [ho]; go_simp; try with_reducible rfl
          try simp only [Act.put, List.setIfInBounds_toArray, List.set_cons_zero, List.set_cons_succ]
          refine wpAnyH_done (by kernel_rfl) ?_ _
          clear d1 d2 d3 hj hwr hmi
          go_wp2_with fail
          go_meet
          exact ⟨false, rfl, HD4.out, .inr ⟨rfl, HF.out, by omega, HNV.out (by omega)⟩⟩
  obtain ⟨q, rfl, hb4, hq⟩ := hcut
  obtain ⟨w4, rfl⟩ : ∃ w4 : World, w4 = wc := ⟨_, rfl⟩
  have HB4 := Lib.hid (HB3.out.trans (hb4.mono HB3.out.size))
  have HR4 := Lib.hid (HR3.out.now hb4)
  have HZ4 := Lib.hid (HZ3.out.now hb4)
  have HX4 := Lib.hid (HX3.out.below hb4 HX3.out.lt)
  have HP4 := Lib.hid (HP3.out.below hb4 HP3.out.lt)
  clear hb4
  rcases hq with rfl | ⟨rfl, hF0, hbn, hold⟩
  · go_wp2_with fail
    go_ret
    exact ⟨rfl, HB4.out⟩
  · have hF : fewB l = true ∧ rightN l = 0 := by simpa [rightB] using hF0
    have hfew : ∀ {l : List Bu} {n : Nat}, fewB l = true → l.length = n → n ≤ 100 ∧ ∀ b ∈ l, b.zs.length ≤ 1000 := by
      intro l n h hl
      simp only [fewB, Bool.and_eq_true, decide_eq_true_eq, List.all_eq_true] at h
      exact ⟨by omega, fun b hb => by have := h.2 b hb; omega⟩
    obtain ⟨hn, hz⟩ := hfew hF.1 HL.out
    have HZs := Lib.hid hz
    have HRn := Lib.hid hF.2
    have HOld := Lib.hid hold
    clear hz hfew hF hF0 hold HF
    have HI1 : Hid (∀ W : World, Buls W W.heap.size lA ln l → Ints W W.heap.size bA bn zs → Calls Try.prog 14 #[.slice lA ln lc, .agg #[.int .i64 ver, .int .i64 fr, .int .i64 ti, .int .i64 lo, .int .i64 hi, .slice bA bn bc, .int .i64 lev]] W (IssR (l ++ [(⟨ver, fr, ti, lo, hi, lev, zs⟩ : Bu)]) W)) := fun W h1 h2 => issue_any lA ln lc l ⟨ver, fr, ti, lo, hi, lev, zs⟩ bA bn bc W h1 hn HZs.out h2 (by omega)
    obtain ⟨x, hx⟩ : ∃ x, l ++ [(⟨ver, fr, ti, lo, hi, lev, zs⟩ : Bu)] = x := ⟨_, rfl⟩
    have HXe := Lib.hid hx
    rw [hx] at HI1
    obtain ⟨v, hv⟩ : ∃ v, rightN x = v := ⟨_, rfl⟩
    have HV := Lib.hid hv
    clear hx hv
    go_wp2_with
      (refine wpList_load_g 31 (.tmp 4) rfl rfl w0.heap.size rfl _ _ HX4.out _ Try.underlying31 rfl (by kernel_rfl) ?_)
    with_reducible refine (HI1.out _ HR4.out HZ4.out).mono ?_
    rintro e w5 ⟨hb5, hres⟩
    rw [HV.out] at hres
    have HB5 := Lib.hid (HB4.out.trans (hb5.mono HB4.out.size))
    have HR5 := Lib.hid (HR4.out.now hb5)
    have HZ5 := Lib.hid (HZ4.out.now hb5)
    have HX5 := Lib.hid (HX4.out.below hb5 HX4.out.lt)
    have HP5 := Lib.hid (HP4.out.below hb5 HP4.out.lt)
    clear hb5
    by_cases h0 : v = 0
    · obtain ⟨_, xA, xn, xc, rfl, hx1, hx2, hu5⟩ := hres.resolve_left fun h => h.1 h0
      obtain rfl : ln + 1 = xn := by rw [← hu5.len, ← HXe.out, List.length_append, HL.out]; rfl
      have HU5 := Lib.hid hu5
      have hxm := Nat.le_trans hx1 hx2
      have hwr : IntKind.i64.wrap (((ln : Nat) : Int) + 1) = ((ln : Nat) : Int) + 1 := IntWalk.i64_in _ (by omega)
      have HRt : Hid (∀ W : World, Buls W W.heap.size xA (ln + 1) x → Calls Try.prog 11 #[.slice xA (ln + 1) xc] W fun e w' => e = .returned (.int .i64 0) ∧ Below W.heap.size W w') := fun W hW => by have h := right_any xA (ln + 1) xc x W hW; rw [HV.out, h0] at h; exact h
      have HIn : Hid (InR ⟨ver, fr, ti, lo, hi, lev, zs⟩) := hide (rightN_spec (HV.out.trans h0) _ (by rw [← HXe.out]; simp)).1
      clear hres hu5 h0 hx1 hx2
      go_wp2_with fail
      with_reducible refine (HRt.out _ HU5.out).mono ?_
      rintro e w6 ⟨rfl, hb6⟩
      have HB6 := Lib.hid (HB5.out.trans (hb6.mono HB5.out.size))
      have HR6 := Lib.hid (HR5.out.now hb6)
      have HZ6 := Lib.hid (HZ5.out.now hb6)
      have HX6 := Lib.hid (HX5.out.below hb6 HX5.out.lt)
      have HP6 := Lib.hid (HP5.out.below hb6 HP5.out.lt)
      have HU6 := Lib.hid (HU5.out.now hb6)
      clear hb6 hwr
      have x6_0 : w6.cell? ⟨w0.heap.size, 0, none⟩ = some (.int .i64 ver) := HX6.out.cell 0
      have x6_1 : w6.cell? ⟨w0.heap.size, 1, none⟩ = some (.int .i64 fr) := HX6.out.cell 1
      have x6_2 : w6.cell? ⟨w0.heap.size, 2, none⟩ = some (.int .i64 ti) := HX6.out.cell 2
      have x6_3 : w6.cell? ⟨w0.heap.size, 3, none⟩ = some (.int .i64 lo) := HX6.out.cell 3
      have x6_4 : w6.cell? ⟨w0.heap.size, 4, none⟩ = some (.int .i64 hi) := HX6.out.cell 4
      have x6_5 : w6.cell? ⟨w0.heap.size, 5, none⟩ = some (.slice bA bn bc) := HX6.out.cell 5
      have x6_6 : w6.cell? ⟨w0.heap.size, 6, none⟩ = some (.int .i64 lev) := HX6.out.cell 6
      have p6_0 : w6.cell? ⟨w1.heap.size, 0, none⟩ = some (.int .i64 pz) := HP6.out.cell 0
      have p6_1 : w6.cell? ⟨w1.heap.size, 1, none⟩ = some (.int .i64 pl) := HP6.out.cell 1
      have p6_2 : w6.cell? ⟨w1.heap.size, 2, none⟩ = some (.int .i64 ph) := HP6.out.cell 2
      have p6_3 : w6.cell? ⟨w1.heap.size, 3, none⟩ = some (.int .i64 pt) := HP6.out.cell 3
      by_cases hf : fr ≤ pt
      · by_cases ht : pt < ti
        · skip
          have hh : hasB ⟨ver, fr, ti, lo, hi, lev, zs⟩ pt = true := by unfold hasB; simp only [Bool.and_eq_true, decide_eq_true_eq]; exact ⟨hf, ht⟩
          have HC1 : Hid (curN x pt = ver) := by show _ = _; rw [← HXe.out]; exact cur_in (b := ⟨ver, fr, ti, lo, hi, lev, zs⟩) HOld.out HIn.out.1 hh
          have HC3 : Hid (worN x pt = lev) := by show _ = _; rw [← HXe.out]; exact wor_in (b := ⟨ver, fr, ti, lo, hi, lev, zs⟩) HOld.out HIn.out hh
          have HL0 : Hid (levN x pz pl ph pt = if (zs.contains pz && decide (lo < ph) && decide (pl < hi)) = true then lev else 0) := by show _ = _; rw [← HXe.out]; exact lev_in (b := ⟨ver, fr, ti, lo, hi, lev, zs⟩) HOld.out HIn.out hh _ _ _
          clear hh
          go_wp2_with fail
          clear x6_0 x6_1 x6_2 x6_3 x6_4 x6_5 x6_6 p6_0 p6_1 p6_2 p6_3
          go_loopw [9, 10] (fun q i wr => ∃ k : Nat, k ≤ bn ∧ i = .int .i64 k ∧ q = .bool ((zs.take k).contains pz) ∧ Below w6.heap.size w6 wr) (fun _ i _ => bn - (intOf i).toNat)
          case atStart => exact ⟨0, by omega, rfl, rfl, Below.refl _ _⟩
          case round =>
            obtain ⟨k, hk, rfl, rfl, hb8⟩ := hrel
            obtain ⟨w8, rfl⟩ : ∃ w8 : World, w8 = wr := ⟨_, rfl⟩
            have HL8 := Lib.hid hb8
            have HB8 := Lib.hid (HB6.out.trans (hb8.mono HB6.out.size))
            have HR8 := Lib.hid (HR6.out.now hb8)
            have HZ8 := Lib.hid (HZ6.out.now hb8)
            have HX8 := Lib.hid (HX6.out.below hb8 HX6.out.lt)
            have HP8 := Lib.hid (HP6.out.below hb8 HP6.out.lt)
            have HU8 := Lib.hid (HU6.out.now hb8)
            clear hb8
            have x8_0 : w8.cell? ⟨w0.heap.size, 0, none⟩ = some (.int .i64 ver) := HX8.out.cell 0
            have x8_1 : w8.cell? ⟨w0.heap.size, 1, none⟩ = some (.int .i64 fr) := HX8.out.cell 1
            have x8_2 : w8.cell? ⟨w0.heap.size, 2, none⟩ = some (.int .i64 ti) := HX8.out.cell 2
            have x8_3 : w8.cell? ⟨w0.heap.size, 3, none⟩ = some (.int .i64 lo) := HX8.out.cell 3
            have x8_4 : w8.cell? ⟨w0.heap.size, 4, none⟩ = some (.int .i64 hi) := HX8.out.cell 4
            have x8_5 : w8.cell? ⟨w0.heap.size, 5, none⟩ = some (.slice bA bn bc) := HX8.out.cell 5
            have x8_6 : w8.cell? ⟨w0.heap.size, 6, none⟩ = some (.int .i64 lev) := HX8.out.cell 6
            have p8_0 : w8.cell? ⟨w1.heap.size, 0, none⟩ = some (.int .i64 pz) := HP8.out.cell 0
            have p8_1 : w8.cell? ⟨w1.heap.size, 1, none⟩ = some (.int .i64 pl) := HP8.out.cell 1
            have p8_2 : w8.cell? ⟨w1.heap.size, 2, none⟩ = some (.int .i64 ph) := HP8.out.cell 2
            have p8_3 : w8.cell? ⟨w1.heap.size, 3, none⟩ = some (.int .i64 pt) := HP8.out.cell 3
            by_cases hlt : k < bn
            · skip
              obtain ⟨bad, rfl, hbb, hzc⟩ := HZ8.out.int hlt
              obtain ⟨zk, hzk⟩ : ∃ z, zs.getD k 0 = z := ⟨_, rfl⟩
              rw [hzk] at hzc
              have HN : Hid ((zs.take (k + 1)).contains pz = ((zs.take k).contains pz || (zk == pz))) := by
                show _ = _
                have hkl : k < zs.length := by rw [HBn.out]; exact hlt
                rw [List.take_succ_eq_append_getElem hkl, List.contains_eq_any_beq, List.contains_eq_any_beq, List.any_append]
                simp only [List.any_cons, List.any_nil, Bool.or_false]
                rw [← hzk, List.getD_eq_getElem?_getD, List.getElem?_eq_getElem hkl]
                simp only [Option.getD_some]
                rw [show (pz == zs[k]) = (zs[k] == pz) from by rw [Bool.beq_comm]]
              clear hzk
              have hkb : (k : Int) < (bn : Int) := by omega
              generalize (zs.take k).contains pz = q at *
              obtain ⟨q2, hq2⟩ : ∃ q2, (zk == pz) = q2 := ⟨_, rfl⟩
              rw [hq2] at HN
              go_wp2_with fail
              have HX8d := Lib.hid HX8.out.drew
              have HP8d := Lib.hid HP8.out.drew
              have HB8d := Lib.hid HB8.out.drew
              have HZ8d : Hid (Ints w8.drew w8.drew.heap.size _ _ zs) := hide HZ8.out
              have HR8d : Hid (Buls w8.drew w8.drew.heap.size _ _ l) := hide HR8.out
              have HU8d : Hid (Buls w8.drew w8.drew.heap.size xA _ x) := hide HU8.out
              have HK8d : Hid (w8.drew.cell? (bad.add k) = some (.int .i64 zk)) := hide hzc
              cases q with
              | true =>
                refine wp_region_held_drew (S := fun W => (Buls W W.heap.size lA ln l) ∧ Blk W w0.heap.size 31 #[.int .i64 ver, .int .i64 fr, .int .i64 ti, .int .i64 lo, .int .i64 hi, .slice (some bad) bn bc, .int .i64 lev] ∧ Blk W w1.heap.size 37 #[.int .i64 pz, .int .i64 pl, .int .i64 ph, .int .i64 pt] ∧ Below w0.heap.size w0 W ∧ Ints W W.heap.size (some bad) bn zs ∧ W.cell? ⟨w0.heap.size, 0, none⟩ = some (.int .i64 ver) ∧ W.cell? ⟨w0.heap.size, 1, none⟩ = some (.int .i64 fr) ∧ W.cell? ⟨w0.heap.size, 2, none⟩ = some (.int .i64 ti) ∧ W.cell? ⟨w0.heap.size, 3, none⟩ = some (.int .i64 lo) ∧ W.cell? ⟨w0.heap.size, 4, none⟩ = some (.int .i64 hi) ∧ W.cell? ⟨w0.heap.size, 5, none⟩ = some (.slice (some bad) bn bc) ∧ W.cell? ⟨w0.heap.size, 6, none⟩ = some (.int .i64 lev) ∧ W.cell? ⟨w1.heap.size, 0, none⟩ = some (.int .i64 pz) ∧ W.cell? ⟨w1.heap.size, 1, none⟩ = some (.int .i64 pl) ∧ W.cell? ⟨w1.heap.size, 2, none⟩ = some (.int .i64 ph) ∧ W.cell? ⟨w1.heap.size, 3, none⟩ = some (.int .i64 pt) ∧ W.cell? (bad.add k) = some (.int .i64 zk)) (by kernel_rfl) (⟨HR8d.out, HX8d.out, HP8d.out, HB8d.out, HZ8d.out, HX8d.out.cell 0, HX8d.out.cell 1, HX8d.out.cell 2, HX8d.out.cell 3, HX8d.out.cell 4, HX8d.out.cell 5, HX8d.out.cell 6, HP8d.out.cell 0, HP8d.out.cell 1, HP8d.out.cell 2, HP8d.out.cell 3, HK8d.out⟩) (fun hHeld => ?_)
                refine held_run 0 (some 82) (.move (.tmp 9)) ?v15_6_0 (by rfl) (by kernel_rfl) (by kernel_rfl) (by kernel_rfl) (fun _ _ _ h => h) (fun o ho w hS => ?y15_6_0) (by assumption) ?r15_6_0
                case y15_6_0 => (try dsimp only at hS); unfold execOp; simp only [ho]; go_simp; try with_reducible rfl
                try simp only [Act.put, List.setIfInBounds_toArray, List.set_cons_zero, List.set_cons_succ]
                refine held_run 1 (some 83) (.move (.tmp 82)) ?v15_6_1 (by rfl) (by kernel_rfl) (by kernel_rfl) (by kernel_rfl) (fun _ _ _ h => h) (fun o ho w hS => ?y15_6_1) (by assumption) ?r15_6_1
                case y15_6_1 => (try dsimp only at hS); unfold execOp; simp only [ho]; go_simp; try with_reducible rfl
                try simp only [Act.put, List.setIfInBounds_toArray, List.set_cons_zero, List.set_cons_succ]
                refine held_skip 2 (some 84) (by rfl) (by kernel_rfl) (by kernel_rfl) (by kernel_rfl) (fun _ _ _ h => h) (by assumption) ?_
                try simp only [Act.put, List.setIfInBounds_toArray, List.set_cons_zero, List.set_cons_succ]
                refine held_skip 3 (some 85) (by rfl) (by kernel_rfl) (by kernel_rfl) (by kernel_rfl) (fun _ _ _ h => h) (by assumption) ?_
                try simp only [Act.put, List.setIfInBounds_toArray, List.set_cons_zero, List.set_cons_succ]
                refine held_skip 4 (some 86) (by rfl) (by kernel_rfl) (by kernel_rfl) (by kernel_rfl) (fun _ _ _ h => h) (by assumption) ?_
                try simp only [Act.put, List.setIfInBounds_toArray, List.set_cons_zero, List.set_cons_succ]
                refine held_skip 5 (some 87) (by rfl) (by kernel_rfl) (by kernel_rfl) (by kernel_rfl) (fun _ _ _ h => h) (by assumption) ?_
                try simp only [Act.put, List.setIfInBounds_toArray, List.set_cons_zero, List.set_cons_succ]
                refine held_skip 6 (some 88) (by rfl) (by kernel_rfl) (by kernel_rfl) (by kernel_rfl) (fun _ _ _ h => h) (by assumption) ?_
                try simp only [Act.put, List.setIfInBounds_toArray, List.set_cons_zero, List.set_cons_succ]
                refine held_skip 7 (some 89) (by rfl) (by kernel_rfl) (by kernel_rfl) (by kernel_rfl) (fun _ _ _ h => h) (by assumption) ?_
                try simp only [Act.put, List.setIfInBounds_toArray, List.set_cons_zero, List.set_cons_succ]
                refine held_skip 8 (some 90) (by rfl) (by kernel_rfl) (by kernel_rfl) (by kernel_rfl) (fun _ _ _ h => h) (by assumption) ?_
                try simp only [Act.put, List.setIfInBounds_toArray, List.set_cons_zero, List.set_cons_succ]
                refine held_skip 9 (some 91) (by rfl) (by kernel_rfl) (by kernel_rfl) (by kernel_rfl) (fun _ _ _ h => h) (by assumption) ?_
                try simp only [Act.put, List.setIfInBounds_toArray, List.set_cons_zero, List.set_cons_succ]
                refine held_run 10 (some 92) (.pick (.tmp 83) (.const (Value.bool true)) (.tmp 91)) ?v15_6_10 (by rfl) (by kernel_rfl) (by kernel_rfl) (by kernel_rfl) (fun _ _ _ h => h) (fun o ho w hS => ?y15_6_10) (by assumption) ?r15_6_10
                case y15_6_10 => (try dsimp only at hS); unfold execOp; simp only [ho]; go_simp; try with_reducible rfl
                try simp only [Act.put, List.setIfInBounds_toArray, List.set_cons_zero, List.set_cons_succ]
                refine held_run 11 (some 9) (.assign (.tmp 92)) ?v15_6_11 (by rfl) (by kernel_rfl) (by kernel_rfl) (by kernel_rfl) (fun _ _ _ h => h) (fun o ho w hS => ?y15_6_11) (by assumption) ?r15_6_11
                case y15_6_11 => (try dsimp only at hS); unfold execOp; simp only [ho]; go_simp; try with_reducible rfl
                try simp only [Act.put, List.setIfInBounds_toArray, List.set_cons_zero, List.set_cons_succ]
                refine wpAnyH_done (by kernel_rfl) ?_ _
                go_wp2_with fail
                go_roundw
                case rel => exact ⟨k + 1, by omega, by go_num, by rw [HN.out]; rfl, HL8.out.drew⟩
                case measure => simp [intOf]; omega
              | false =>
                refine wp_region_held_drew (S := fun W => (Buls W W.heap.size lA ln l) ∧ Blk W w0.heap.size 31 #[.int .i64 ver, .int .i64 fr, .int .i64 ti, .int .i64 lo, .int .i64 hi, .slice (some bad) bn bc, .int .i64 lev] ∧ Blk W w1.heap.size 37 #[.int .i64 pz, .int .i64 pl, .int .i64 ph, .int .i64 pt] ∧ Below w0.heap.size w0 W ∧ Ints W W.heap.size (some bad) bn zs ∧ W.cell? ⟨w0.heap.size, 0, none⟩ = some (.int .i64 ver) ∧ W.cell? ⟨w0.heap.size, 1, none⟩ = some (.int .i64 fr) ∧ W.cell? ⟨w0.heap.size, 2, none⟩ = some (.int .i64 ti) ∧ W.cell? ⟨w0.heap.size, 3, none⟩ = some (.int .i64 lo) ∧ W.cell? ⟨w0.heap.size, 4, none⟩ = some (.int .i64 hi) ∧ W.cell? ⟨w0.heap.size, 5, none⟩ = some (.slice (some bad) bn bc) ∧ W.cell? ⟨w0.heap.size, 6, none⟩ = some (.int .i64 lev) ∧ W.cell? ⟨w1.heap.size, 0, none⟩ = some (.int .i64 pz) ∧ W.cell? ⟨w1.heap.size, 1, none⟩ = some (.int .i64 pl) ∧ W.cell? ⟨w1.heap.size, 2, none⟩ = some (.int .i64 ph) ∧ W.cell? ⟨w1.heap.size, 3, none⟩ = some (.int .i64 pt) ∧ W.cell? (bad.add k) = some (.int .i64 zk)) (by kernel_rfl) (⟨HR8d.out, HX8d.out, HP8d.out, HB8d.out, HZ8d.out, HX8d.out.cell 0, HX8d.out.cell 1, HX8d.out.cell 2, HX8d.out.cell 3, HX8d.out.cell 4, HX8d.out.cell 5, HX8d.out.cell 6, HP8d.out.cell 0, HP8d.out.cell 1, HP8d.out.cell 2, HP8d.out.cell 3, HK8d.out⟩) (fun hHeld => ?_)
                refine held_run 0 (some 82) (.move (.tmp 9)) ?v15_7_0 (by rfl) (by kernel_rfl) (by kernel_rfl) (by kernel_rfl) (fun _ _ _ h => h) (fun o ho w hS => ?y15_7_0) (by assumption) ?r15_7_0
                case y15_7_0 => (try dsimp only at hS); unfold execOp; simp only [ho]; go_simp; try with_reducible rfl
                try simp only [Act.put, List.setIfInBounds_toArray, List.set_cons_zero, List.set_cons_succ]
                refine held_run 1 (some 83) (.move (.tmp 82)) ?v15_7_1 (by rfl) (by kernel_rfl) (by kernel_rfl) (by kernel_rfl) (fun _ _ _ h => h) (fun o ho w hS => ?y15_7_1) (by assumption) ?r15_7_1
                case y15_7_1 => (try dsimp only at hS); unfold execOp; simp only [ho]; go_simp; try with_reducible rfl
                try simp only [Act.put, List.setIfInBounds_toArray, List.set_cons_zero, List.set_cons_succ]
                refine held_run 2 (some 84) (.fieldAddr 31 (.tmp 4) 4) ?v15_7_2 (by rfl) (by kernel_rfl) (by kernel_rfl) (by kernel_rfl) (fun _ _ _ h => h) (fun o ho w hS => ?y15_7_2) (by assumption) ?r15_7_2
                case y15_7_2 => (try dsimp only at hS); unfold execOp; simp only [ho]; go_simp; try with_reducible rfl
                try simp only [Act.put, List.setIfInBounds_toArray, List.set_cons_zero, List.set_cons_succ]
                refine held_run 3 (some 85) (.load 29 (.tmp 84)) ?v15_7_3 (by rfl) (by kernel_rfl) (by kernel_rfl) (by kernel_rfl) (fun _ _ _ h => h) (fun o ho w hS => ?y15_7_3) (by assumption) ?r15_7_3
                case y15_7_3 => (try dsimp only at hS); unfold execOp; simp only [ho]; go_simp; try with_reducible rfl
                try simp only [Act.put, List.setIfInBounds_toArray, List.set_cons_zero, List.set_cons_succ]
                refine held_run 4 (some 86) (.move (.tmp 10)) ?v15_7_4 (by rfl) (by kernel_rfl) (by kernel_rfl) (by kernel_rfl) (fun _ _ _ h => h) (fun o ho w hS => ?y15_7_4) (by assumption) ?r15_7_4
                case y15_7_4 => (try dsimp only at hS); unfold execOp; simp only [ho]; go_simp; try with_reducible rfl
                try simp only [Act.put, List.setIfInBounds_toArray, List.set_cons_zero, List.set_cons_succ]
                refine held_run 5 (some 87) (.indexAddr 29 (.tmp 85) (.tmp 86)) ?v15_7_5 (by rfl) (by kernel_rfl) (by kernel_rfl) (by kernel_rfl) (fun _ _ _ h => h) (fun o ho w hS => ?y15_7_5) (by assumption) ?r15_7_5
                case y15_7_5 => (try dsimp only at hS); unfold execOp; simp only [ho]; go_simp; try with_reducible rfl
                try simp only [Act.put, List.setIfInBounds_toArray, List.set_cons_zero, List.set_cons_succ]
                refine held_run 6 (some 88) (.load 3 (.tmp 87)) ?v15_7_6 (by rfl) (by kernel_rfl) (by kernel_rfl) (by kernel_rfl) (fun _ _ _ h => h) (fun o ho w hS => ?y15_7_6) (by assumption) ?r15_7_6
                case y15_7_6 => (try dsimp only at hS); unfold execOp; simp only [ho]; go_simp; try with_reducible rfl
                try simp only [Act.put, List.setIfInBounds_toArray, List.set_cons_zero, List.set_cons_succ]
                refine held_run 7 (some 89) (.fieldAddr 37 (.tmp 5) 0) ?v15_7_7 (by rfl) (by kernel_rfl) (by kernel_rfl) (by kernel_rfl) (fun _ _ _ h => h) (fun o ho w hS => ?y15_7_7) (by assumption) ?r15_7_7
                case y15_7_7 => (try dsimp only at hS); unfold execOp; simp only [ho]; go_simp; try with_reducible rfl
                try simp only [Act.put, List.setIfInBounds_toArray, List.set_cons_zero, List.set_cons_succ]
                refine held_run 8 (some 90) (.load 3 (.tmp 89)) ?v15_7_8 (by rfl) (by kernel_rfl) (by kernel_rfl) (by kernel_rfl) (fun _ _ _ h => h) (fun o ho w hS => ?y15_7_8) (by assumption) ?r15_7_8
                case y15_7_8 => (try dsimp only at hS); unfold execOp; simp only [ho]; go_simp; try with_reducible rfl
                try simp only [Act.put, List.setIfInBounds_toArray, List.set_cons_zero, List.set_cons_succ]
                refine held_run 9 (some 91) (.binOp .eql 3 (.tmp 88) (.tmp 90) 3) ?v15_7_9 (by rfl) (by kernel_rfl) (by kernel_rfl) (by kernel_rfl) (fun _ _ _ h => h) (fun o ho w hS => ?y15_7_9) (by assumption) ?r15_7_9
                case y15_7_9 => (try dsimp only at hS); unfold execOp; simp only [ho]; go_simp; try with_reducible rfl
                try simp only [Act.put, List.setIfInBounds_toArray, List.set_cons_zero, List.set_cons_succ]
                refine held_run 10 (some 92) (.pick (.tmp 83) (.const (Value.bool true)) (.tmp 91)) ?v15_7_10 (by rfl) (by kernel_rfl) (by kernel_rfl) (by kernel_rfl) (fun _ _ _ h => h) (fun o ho w hS => ?y15_7_10) (by assumption) ?r15_7_10
                case y15_7_10 => (try dsimp only at hS); unfold execOp; simp only [ho]; go_simp; try with_reducible rfl
                try simp only [Act.put, List.setIfInBounds_toArray, List.set_cons_zero, List.set_cons_succ]
                refine held_run 11 (some 9) (.assign (.tmp 92)) ?v15_7_11 (by rfl) (by kernel_rfl) (by kernel_rfl) (by kernel_rfl) (fun _ _ _ h => h) (fun o ho w hS => ?y15_7_11) (by assumption) ?r15_7_11
                case y15_7_11 => (try dsimp only at hS); unfold execOp; simp only [ho]; go_simp; try with_reducible rfl
                try simp only [Act.put, List.setIfInBounds_toArray, List.set_cons_zero, List.set_cons_succ]
                refine wpAnyH_done (by kernel_rfl) ?_ _
                go_wp2_with fail
                go_roundw
                case rel => exact ⟨k + 1, by omega, by go_num, by rw [HN.out]; rfl, HL8.out.drew⟩
                case measure => simp [intOf]; omega
            · skip
              obtain rfl : bn = k := by omega
              rw [List.take_of_length_le (by rw [HBn.out]; exact Nat.le_refl _)]
              obtain ⟨q, hq⟩ : ∃ q, zs.contains pz = q := ⟨_, rfl⟩
              rw [hq] at HL0 ⊢
              clear hq
              cases q with
              | false =>
                go_wp2_with fail
                have HC2 : Hid (levN x pz pl ph pt = 0) := by
                  show _ = _
                  rw [HL0.out]
                  exact if_neg (fun h => by simp at h <;> omega)
                have HX8d := Lib.hid HX8.out.drew
                have HP8d := Lib.hid HP8.out.drew
                have HB8d := Lib.hid HB8.out.drew
                have HZ8d : Hid (Ints w8.drew w8.drew.heap.size _ _ zs) := hide HZ8.out
                have HR8d : Hid (Buls w8.drew w8.drew.heap.size _ _ l) := hide HR8.out
                have HU8d : Hid (Buls w8.drew w8.drew.heap.size xA _ x) := hide HU8.out
                have e1 : (ver == ver) = true := beq_self_eq_true ver
                have e2 : (lev == lev) = true := beq_self_eq_true lev
                refine wp_region_held_drew (S := fun W => (Buls W W.heap.size lA ln l) ∧ Blk W w0.heap.size 31 #[.int .i64 ver, .int .i64 fr, .int .i64 ti, .int .i64 lo, .int .i64 hi, .slice bA bn bc, .int .i64 lev] ∧ Blk W w1.heap.size 37 #[.int .i64 pz, .int .i64 pl, .int .i64 ph, .int .i64 pt] ∧ Below w0.heap.size w0 W ∧ Ints W W.heap.size bA bn zs ∧ W.cell? ⟨w0.heap.size, 0, none⟩ = some (.int .i64 ver) ∧ W.cell? ⟨w0.heap.size, 1, none⟩ = some (.int .i64 fr) ∧ W.cell? ⟨w0.heap.size, 2, none⟩ = some (.int .i64 ti) ∧ W.cell? ⟨w0.heap.size, 3, none⟩ = some (.int .i64 lo) ∧ W.cell? ⟨w0.heap.size, 4, none⟩ = some (.int .i64 hi) ∧ W.cell? ⟨w0.heap.size, 5, none⟩ = some (.slice bA bn bc) ∧ W.cell? ⟨w0.heap.size, 6, none⟩ = some (.int .i64 lev) ∧ W.cell? ⟨w1.heap.size, 0, none⟩ = some (.int .i64 pz) ∧ W.cell? ⟨w1.heap.size, 1, none⟩ = some (.int .i64 pl) ∧ W.cell? ⟨w1.heap.size, 2, none⟩ = some (.int .i64 ph) ∧ W.cell? ⟨w1.heap.size, 3, none⟩ = some (.int .i64 pt) ∧ Buls W W.heap.size xA (ln + 1) x) (by kernel_rfl) (⟨HR8d.out, HX8d.out, HP8d.out, HB8d.out, HZ8d.out, HX8d.out.cell 0, HX8d.out.cell 1, HX8d.out.cell 2, HX8d.out.cell 3, HX8d.out.cell 4, HX8d.out.cell 5, HX8d.out.cell 6, HP8d.out.cell 0, HP8d.out.cell 1, HP8d.out.cell 2, HP8d.out.cell 3, HU8d.out⟩) (fun hHeld => ?_)
                refine held_run 0 (some 108) (.move (.tmp 7)) ?v17_8_0 (by rfl) (by kernel_rfl) (by kernel_rfl) (by kernel_rfl) (fun _ _ _ h => h) (fun o ho w hS => ?y17_8_0) (by assumption) ?r17_8_0
                case y17_8_0 => (try dsimp only at hS); unfold execOp; simp only [ho]; go_simp; try with_reducible rfl
                try simp only [Act.put, List.setIfInBounds_toArray, List.set_cons_zero, List.set_cons_succ]
                refine held_run 1 (some 109) (.fieldAddr 37 (.tmp 5) 3) ?v17_8_1 (by rfl) (by kernel_rfl) (by kernel_rfl) (by kernel_rfl) (fun _ _ _ h => h) (fun o ho w hS => ?y17_8_1) (by assumption) ?r17_8_1
                case y17_8_1 => (try dsimp only at hS); unfold execOp; simp only [ho]; go_simp; try with_reducible rfl
                try simp only [Act.put, List.setIfInBounds_toArray, List.set_cons_zero, List.set_cons_succ]
                refine held_run 2 (some 110) (.load 3 (.tmp 109)) ?v17_8_2 (by rfl) (by kernel_rfl) (by kernel_rfl) (by kernel_rfl) (fun _ _ _ h => h) (fun o ho w hS => ?y17_8_2) (by assumption) ?r17_8_2
                case y17_8_2 => (try dsimp only at hS); unfold execOp; simp only [ho]; go_simp; try with_reducible rfl
                try simp only [Act.put, List.setIfInBounds_toArray, List.set_cons_zero, List.set_cons_succ]
                refine held_run 4 (some 112) (.fieldAddr 31 (.tmp 4) 0) ?v17_8_4 (by rfl) (by kernel_rfl) (by kernel_rfl) (by kernel_rfl) (fun _ _ _ h => h) (fun o ho w hS => ?y17_8_4) (by assumption) ?r17_8_4
                case y17_8_4 => (try dsimp only at hS); unfold execOp; simp only [ho]; go_simp; try with_reducible rfl
                try simp only [Act.put, List.setIfInBounds_toArray, List.set_cons_zero, List.set_cons_succ]
                refine held_run 5 (some 113) (.load 3 (.tmp 112)) ?v17_8_5 (by rfl) (by kernel_rfl) (by kernel_rfl) (by kernel_rfl) (fun _ _ _ h => h) (fun o ho w hS => ?y17_8_5) (by assumption) ?r17_8_5
                case y17_8_5 => (try dsimp only at hS); unfold execOp; simp only [ho]; go_simp; try with_reducible rfl
                try simp only [Act.put, List.setIfInBounds_toArray, List.set_cons_zero, List.set_cons_succ]
                refine held_call 3 (some 111) 17 [(.tmp 108), (.tmp 110)] #[22, 3] #[.slice xA (ln + 1) xc, .int .i64 pt] (by rfl) (by rfl) (by kernel_rfl) Try.func17 (by rfl) (by rfl) ?_
                refine (HCur.out _ _ _ x _ ver HU8d.out hxm HC1.out).mono ?_
                rintro e w9 ⟨rfl, hb9⟩
                have HB9 := Lib.hid (HB8d.out.trans (hb9.mono HB8d.out.size))
                have HR9 := Lib.hid (HR8d.out.now hb9)
                have HZ9 := Lib.hid (HZ8d.out.now hb9)
                have HX9 := Lib.hid (HX8d.out.below hb9 HX8d.out.lt)
                have HP9 := Lib.hid (HP8d.out.below hb9 HP8d.out.lt)
                have HU9 := Lib.hid (HU8d.out.now hb9)
                have hH9 : (fun W => (Buls W W.heap.size lA ln l) ∧ Blk W w0.heap.size 31 #[.int .i64 ver, .int .i64 fr, .int .i64 ti, .int .i64 lo, .int .i64 hi, .slice bA bn bc, .int .i64 lev] ∧ Blk W w1.heap.size 37 #[.int .i64 pz, .int .i64 pl, .int .i64 ph, .int .i64 pt] ∧ Below w0.heap.size w0 W ∧ Ints W W.heap.size bA bn zs ∧ W.cell? ⟨w0.heap.size, 0, none⟩ = some (.int .i64 ver) ∧ W.cell? ⟨w0.heap.size, 1, none⟩ = some (.int .i64 fr) ∧ W.cell? ⟨w0.heap.size, 2, none⟩ = some (.int .i64 ti) ∧ W.cell? ⟨w0.heap.size, 3, none⟩ = some (.int .i64 lo) ∧ W.cell? ⟨w0.heap.size, 4, none⟩ = some (.int .i64 hi) ∧ W.cell? ⟨w0.heap.size, 5, none⟩ = some (.slice bA bn bc) ∧ W.cell? ⟨w0.heap.size, 6, none⟩ = some (.int .i64 lev) ∧ W.cell? ⟨w1.heap.size, 0, none⟩ = some (.int .i64 pz) ∧ W.cell? ⟨w1.heap.size, 1, none⟩ = some (.int .i64 pl) ∧ W.cell? ⟨w1.heap.size, 2, none⟩ = some (.int .i64 ph) ∧ W.cell? ⟨w1.heap.size, 3, none⟩ = some (.int .i64 pt) ∧ Buls W W.heap.size xA (ln + 1) x) w9 := ⟨HR9.out, HX9.out, HP9.out, HB9.out, HZ9.out, HX9.out.cell 0, HX9.out.cell 1, HX9.out.cell 2, HX9.out.cell 3, HX9.out.cell 4, HX9.out.cell 5, HX9.out.cell 6, HP9.out.cell 0, HP9.out.cell 1, HP9.out.cell 2, HP9.out.cell 3, HU9.out⟩
                refine ⟨_, rfl, hH9, ?_⟩
                clear hb9
                try simp only [Act.put, List.setIfInBounds_toArray, List.set_cons_zero, List.set_cons_succ]
                refine held_run 6 (some 114) (.binOp .eql 3 (.tmp 111) (.tmp 113) 3) ?v17_8_6 (by rfl) (by kernel_rfl) (by kernel_rfl) (by kernel_rfl) (fun _ _ _ h => h) (fun o ho w hS => ?y17_8_6) (by assumption) ?r17_8_6
                case y17_8_6 => (try dsimp only at hS); unfold execOp; simp only [ho]; go_simp; try with_reducible rfl
                try simp only [Act.put, List.setIfInBounds_toArray, List.set_cons_zero, List.set_cons_succ]
                refine held_run 7 (some 115) (.move (.tmp 114)) ?v17_8_7 (by rfl) (by kernel_rfl) (by kernel_rfl) (by kernel_rfl) (fun _ _ _ h => h) (fun o ho w hS => ?y17_8_7) (by assumption) ?r17_8_7
                case y17_8_7 => (try dsimp only at hS); unfold execOp; simp only [ho]; go_simp; try with_reducible rfl
                try simp only [Act.put, List.setIfInBounds_toArray, List.set_cons_zero, List.set_cons_succ]
                refine held_run 8 (some 116) (.move (.tmp 7)) ?v17_8_8 (by rfl) (by kernel_rfl) (by kernel_rfl) (by kernel_rfl) (fun _ _ _ h => h) (fun o ho w hS => ?y17_8_8) (by assumption) ?r17_8_8
                case y17_8_8 => (try dsimp only at hS); unfold execOp; simp only [ho]; go_simp; try with_reducible rfl
                try simp only [Act.put, List.setIfInBounds_toArray, List.set_cons_zero, List.set_cons_succ]
                refine held_run 9 (some 117) (.fieldAddr 37 (.tmp 5) 3) ?v17_8_9 (by rfl) (by kernel_rfl) (by kernel_rfl) (by kernel_rfl) (fun _ _ _ h => h) (fun o ho w hS => ?y17_8_9) (by assumption) ?r17_8_9
                case y17_8_9 => (try dsimp only at hS); unfold execOp; simp only [ho]; go_simp; try with_reducible rfl
                try simp only [Act.put, List.setIfInBounds_toArray, List.set_cons_zero, List.set_cons_succ]
                refine held_run 10 (some 118) (.load 3 (.tmp 117)) ?v17_8_10 (by rfl) (by kernel_rfl) (by kernel_rfl) (by kernel_rfl) (fun _ _ _ h => h) (fun o ho w hS => ?y17_8_10) (by assumption) ?r17_8_10
                case y17_8_10 => (try dsimp only at hS); unfold execOp; simp only [ho]; go_simp; try with_reducible rfl
                try simp only [Act.put, List.setIfInBounds_toArray, List.set_cons_zero, List.set_cons_succ]
                refine held_run 12 (some 120) (.fieldAddr 31 (.tmp 4) 5) ?v17_8_12 (by rfl) (by kernel_rfl) (by kernel_rfl) (by kernel_rfl) (fun _ _ _ h => h) (fun o ho w hS => ?y17_8_12) (by assumption) ?r17_8_12
                case y17_8_12 => (try dsimp only at hS); unfold execOp; simp only [ho]; go_simp; try with_reducible rfl
                try simp only [Act.put, List.setIfInBounds_toArray, List.set_cons_zero, List.set_cons_succ]
                refine held_run 13 (some 121) (.load 3 (.tmp 120)) ?v17_8_13 (by rfl) (by kernel_rfl) (by kernel_rfl) (by kernel_rfl) (fun _ _ _ h => h) (fun o ho w hS => ?y17_8_13) (by assumption) ?r17_8_13
                case y17_8_13 => (try dsimp only at hS); unfold execOp; simp only [ho]; go_simp; try with_reducible rfl
                try simp only [Act.put, List.setIfInBounds_toArray, List.set_cons_zero, List.set_cons_succ]
                refine held_call 11 (some 119) 21 [(.tmp 116), (.tmp 118)] #[22, 3] #[.slice xA (ln + 1) xc, .int .i64 pt] (by rfl) (by rfl) (by kernel_rfl) Try.func21 (by rfl) (by rfl) ?_
                refine (HWor.out _ _ _ x _ lev HU9.out hxm HC3.out).mono ?_
                rintro e w10 ⟨rfl, hb10⟩
                have HB10 := Lib.hid (HB9.out.trans (hb10.mono HB9.out.size))
                have HR10 := Lib.hid (HR9.out.now hb10)
                have HZ10 := Lib.hid (HZ9.out.now hb10)
                have HX10 := Lib.hid (HX9.out.below hb10 HX9.out.lt)
                have HP10 := Lib.hid (HP9.out.below hb10 HP9.out.lt)
                have HU10 := Lib.hid (HU9.out.now hb10)
                have hH10 : (fun W => (Buls W W.heap.size lA ln l) ∧ Blk W w0.heap.size 31 #[.int .i64 ver, .int .i64 fr, .int .i64 ti, .int .i64 lo, .int .i64 hi, .slice bA bn bc, .int .i64 lev] ∧ Blk W w1.heap.size 37 #[.int .i64 pz, .int .i64 pl, .int .i64 ph, .int .i64 pt] ∧ Below w0.heap.size w0 W ∧ Ints W W.heap.size bA bn zs ∧ W.cell? ⟨w0.heap.size, 0, none⟩ = some (.int .i64 ver) ∧ W.cell? ⟨w0.heap.size, 1, none⟩ = some (.int .i64 fr) ∧ W.cell? ⟨w0.heap.size, 2, none⟩ = some (.int .i64 ti) ∧ W.cell? ⟨w0.heap.size, 3, none⟩ = some (.int .i64 lo) ∧ W.cell? ⟨w0.heap.size, 4, none⟩ = some (.int .i64 hi) ∧ W.cell? ⟨w0.heap.size, 5, none⟩ = some (.slice bA bn bc) ∧ W.cell? ⟨w0.heap.size, 6, none⟩ = some (.int .i64 lev) ∧ W.cell? ⟨w1.heap.size, 0, none⟩ = some (.int .i64 pz) ∧ W.cell? ⟨w1.heap.size, 1, none⟩ = some (.int .i64 pl) ∧ W.cell? ⟨w1.heap.size, 2, none⟩ = some (.int .i64 ph) ∧ W.cell? ⟨w1.heap.size, 3, none⟩ = some (.int .i64 pt) ∧ Buls W W.heap.size xA (ln + 1) x) w10 := ⟨HR10.out, HX10.out, HP10.out, HB10.out, HZ10.out, HX10.out.cell 0, HX10.out.cell 1, HX10.out.cell 2, HX10.out.cell 3, HX10.out.cell 4, HX10.out.cell 5, HX10.out.cell 6, HP10.out.cell 0, HP10.out.cell 1, HP10.out.cell 2, HP10.out.cell 3, HU10.out⟩
                refine ⟨_, rfl, hH10, ?_⟩
                clear hb10
                try simp only [Act.put, List.setIfInBounds_toArray, List.set_cons_zero, List.set_cons_succ]
                refine held_run 14 (some 122) (.binOp .eql 3 (.tmp 119) (.tmp 121) 3) ?v17_8_14 (by rfl) (by kernel_rfl) (by kernel_rfl) (by kernel_rfl) (fun _ _ _ h => h) (fun o ho w hS => ?y17_8_14) (by assumption) ?r17_8_14
                case y17_8_14 => (try dsimp only at hS); unfold execOp; simp only [ho]; go_simp; try with_reducible rfl
                try simp only [Act.put, List.setIfInBounds_toArray, List.set_cons_zero, List.set_cons_succ]
                refine held_run 15 (some 123) (.pick (.tmp 115) (.tmp 122) (.const (Value.bool false))) ?v17_8_15 (by rfl) (by kernel_rfl) (by kernel_rfl) (by kernel_rfl) (fun _ _ _ h => h) (fun o ho w hS => ?y17_8_15) (by assumption) ?r17_8_15
                case y17_8_15 => (try dsimp only at hS); unfold execOp; simp only [ho]; go_simp; try with_reducible rfl
                try simp only [Act.put, List.setIfInBounds_toArray, List.set_cons_zero, List.set_cons_succ]
                refine held_run 16 (some 124) (.move (.tmp 123)) ?v17_8_16 (by rfl) (by kernel_rfl) (by kernel_rfl) (by kernel_rfl) (fun _ _ _ h => h) (fun o ho w hS => ?y17_8_16) (by assumption) ?r17_8_16
                case y17_8_16 => (try dsimp only at hS); unfold execOp; simp only [ho]; go_simp; try with_reducible rfl
                try simp only [Act.put, List.setIfInBounds_toArray, List.set_cons_zero, List.set_cons_succ]
                refine held_run 17 (some 125) (.move (.tmp 9)) ?v17_8_17 (by rfl) (by kernel_rfl) (by kernel_rfl) (by kernel_rfl) (fun _ _ _ h => h) (fun o ho w hS => ?y17_8_17) (by assumption) ?r17_8_17
                case y17_8_17 => (try dsimp only at hS); unfold execOp; simp only [ho]; go_simp; try with_reducible rfl
                try simp only [Act.put, List.setIfInBounds_toArray, List.set_cons_zero, List.set_cons_succ]
                refine held_run 18 (some 126) (.move (.tmp 125)) ?v17_8_18 (by rfl) (by kernel_rfl) (by kernel_rfl) (by kernel_rfl) (fun _ _ _ h => h) (fun o ho w hS => ?y17_8_18) (by assumption) ?r17_8_18
                case y17_8_18 => (try dsimp only at hS); unfold execOp; simp only [ho]; go_simp; try with_reducible rfl
                try simp only [Act.put, List.setIfInBounds_toArray, List.set_cons_zero, List.set_cons_succ]
                refine held_skip 19 (some 127) (by rfl) (by kernel_rfl) (by kernel_rfl) (by kernel_rfl) (fun _ _ _ h => h) (by assumption) ?_
                try simp only [Act.put, List.setIfInBounds_toArray, List.set_cons_zero, List.set_cons_succ]
                refine held_skip 20 (some 128) (by rfl) (by kernel_rfl) (by kernel_rfl) (by kernel_rfl) (fun _ _ _ h => h) (by assumption) ?_
                try simp only [Act.put, List.setIfInBounds_toArray, List.set_cons_zero, List.set_cons_succ]
                refine held_skip 22 (some 130) (by rfl) (by kernel_rfl) (by kernel_rfl) (by kernel_rfl) (fun _ _ _ h => h) (by assumption) ?_
                try simp only [Act.put, List.setIfInBounds_toArray, List.set_cons_zero, List.set_cons_succ]
                refine held_skip 23 (some 131) (by rfl) (by kernel_rfl) (by kernel_rfl) (by kernel_rfl) (fun _ _ _ h => h) (by assumption) ?_
                try simp only [Act.put, List.setIfInBounds_toArray, List.set_cons_zero, List.set_cons_succ]
                refine held_skip 21 (some 129) (by rfl) (by kernel_rfl) (by kernel_rfl) (by kernel_rfl) (fun _ _ _ h => h) (by assumption) ?_
                try simp only [Act.put, List.setIfInBounds_toArray, List.set_cons_zero, List.set_cons_succ]
                refine held_skip 24 (some 132) (by rfl) (by kernel_rfl) (by kernel_rfl) (by kernel_rfl) (fun _ _ _ h => h) (by assumption) ?_
                try simp only [Act.put, List.setIfInBounds_toArray, List.set_cons_zero, List.set_cons_succ]
                refine held_run 25 (some 133) (.pick (.tmp 126) (.tmp 132) (.const (Value.bool false))) ?v17_8_25 (by rfl) (by kernel_rfl) (by kernel_rfl) (by kernel_rfl) (fun _ _ _ h => h) (fun o ho w hS => ?y17_8_25) (by assumption) ?r17_8_25
                case y17_8_25 => (try dsimp only at hS); unfold execOp; simp only [ho]; go_simp; try with_reducible rfl
                try simp only [Act.put, List.setIfInBounds_toArray, List.set_cons_zero, List.set_cons_succ]
                refine held_run 26 (some 134) (.move (.tmp 133)) ?v17_8_26 (by rfl) (by kernel_rfl) (by kernel_rfl) (by kernel_rfl) (fun _ _ _ h => h) (fun o ho w hS => ?y17_8_26) (by assumption) ?r17_8_26
                case y17_8_26 => (try dsimp only at hS); unfold execOp; simp only [ho]; go_simp; try with_reducible rfl
                try simp only [Act.put, List.setIfInBounds_toArray, List.set_cons_zero, List.set_cons_succ]
                refine held_run 27 (some 135) (.move (.tmp 9)) ?v17_8_27 (by rfl) (by kernel_rfl) (by kernel_rfl) (by kernel_rfl) (fun _ _ _ h => h) (fun o ho w hS => ?y17_8_27) (by assumption) ?r17_8_27
                case y17_8_27 => (try dsimp only at hS); unfold execOp; simp only [ho]; go_simp; try with_reducible rfl
                try simp only [Act.put, List.setIfInBounds_toArray, List.set_cons_zero, List.set_cons_succ]
                refine held_run 28 (some 136) (.unOp .not 4 (.tmp 135)) ?v17_8_28 (by rfl) (by kernel_rfl) (by kernel_rfl) (by kernel_rfl) (fun _ _ _ h => h) (fun o ho w hS => ?y17_8_28) (by assumption) ?r17_8_28
                case y17_8_28 => (try dsimp only at hS); unfold execOp; simp only [ho]; go_simp; try with_reducible rfl
                try simp only [Act.put, List.setIfInBounds_toArray, List.set_cons_zero, List.set_cons_succ]
                refine held_run 29 (some 137) (.move (.tmp 136)) ?v17_8_29 (by rfl) (by kernel_rfl) (by kernel_rfl) (by kernel_rfl) (fun _ _ _ h => h) (fun o ho w hS => ?y17_8_29) (by assumption) ?r17_8_29
                case y17_8_29 => (try dsimp only at hS); unfold execOp; simp only [ho]; go_simp; try with_reducible rfl
                try simp only [Act.put, List.setIfInBounds_toArray, List.set_cons_zero, List.set_cons_succ]
                refine held_run 30 (some 138) (.move (.tmp 7)) ?v17_8_30 (by rfl) (by kernel_rfl) (by kernel_rfl) (by kernel_rfl) (fun _ _ _ h => h) (fun o ho w hS => ?y17_8_30) (by assumption) ?r17_8_30
                case y17_8_30 => (try dsimp only at hS); unfold execOp; simp only [ho]; go_simp; try with_reducible rfl
                try simp only [Act.put, List.setIfInBounds_toArray, List.set_cons_zero, List.set_cons_succ]
                refine held_load 31 (some 139) 37 (.tmp 5) (by rfl) (by kernel_rfl) (by kernel_rfl) (by kernel_rfl) (w1.heap.size) 37 #[.int .i64 pz, .int .i64 pl, .int .i64 ph, .int .i64 pt] (fun _ _ _ h => h) (by rfl) (fun _ h => h.2.2.1) _ Try.underlying37 rfl (by kernel_rfl) (by assumption) ?_
                try simp only [Act.put, List.setIfInBounds_toArray, List.set_cons_zero, List.set_cons_succ]
                refine held_call 32 (some 140) 19 [(.tmp 138), (.tmp 139)] #[22, 37] #[.slice xA (ln + 1) xc, .agg #[.int .i64 pz, .int .i64 pl, .int .i64 ph, .int .i64 pt]] (by rfl) (by rfl) (by kernel_rfl) Try.func19 (by rfl) (by rfl) ?_
                refine (HLev.out _ _ _ x _ 0 HU10.out hxm HC2.out).mono ?_
                rintro e w11 ⟨rfl, hb11⟩
                have HB11 := Lib.hid (HB10.out.trans (hb11.mono HB10.out.size))
                have HR11 := Lib.hid (HR10.out.now hb11)
                have HZ11 := Lib.hid (HZ10.out.now hb11)
                have HX11 := Lib.hid (HX10.out.below hb11 HX10.out.lt)
                have HP11 := Lib.hid (HP10.out.below hb11 HP10.out.lt)
                have HU11 := Lib.hid (HU10.out.now hb11)
                have hH11 : (fun W => (Buls W W.heap.size lA ln l) ∧ Blk W w0.heap.size 31 #[.int .i64 ver, .int .i64 fr, .int .i64 ti, .int .i64 lo, .int .i64 hi, .slice bA bn bc, .int .i64 lev] ∧ Blk W w1.heap.size 37 #[.int .i64 pz, .int .i64 pl, .int .i64 ph, .int .i64 pt] ∧ Below w0.heap.size w0 W ∧ Ints W W.heap.size bA bn zs ∧ W.cell? ⟨w0.heap.size, 0, none⟩ = some (.int .i64 ver) ∧ W.cell? ⟨w0.heap.size, 1, none⟩ = some (.int .i64 fr) ∧ W.cell? ⟨w0.heap.size, 2, none⟩ = some (.int .i64 ti) ∧ W.cell? ⟨w0.heap.size, 3, none⟩ = some (.int .i64 lo) ∧ W.cell? ⟨w0.heap.size, 4, none⟩ = some (.int .i64 hi) ∧ W.cell? ⟨w0.heap.size, 5, none⟩ = some (.slice bA bn bc) ∧ W.cell? ⟨w0.heap.size, 6, none⟩ = some (.int .i64 lev) ∧ W.cell? ⟨w1.heap.size, 0, none⟩ = some (.int .i64 pz) ∧ W.cell? ⟨w1.heap.size, 1, none⟩ = some (.int .i64 pl) ∧ W.cell? ⟨w1.heap.size, 2, none⟩ = some (.int .i64 ph) ∧ W.cell? ⟨w1.heap.size, 3, none⟩ = some (.int .i64 pt) ∧ Buls W W.heap.size xA (ln + 1) x) w11 := ⟨HR11.out, HX11.out, HP11.out, HB11.out, HZ11.out, HX11.out.cell 0, HX11.out.cell 1, HX11.out.cell 2, HX11.out.cell 3, HX11.out.cell 4, HX11.out.cell 5, HX11.out.cell 6, HP11.out.cell 0, HP11.out.cell 1, HP11.out.cell 2, HP11.out.cell 3, HU11.out⟩
                refine ⟨_, rfl, hH11, ?_⟩
                clear hb11
                try simp only [Act.put, List.setIfInBounds_toArray, List.set_cons_zero, List.set_cons_succ]
                refine held_run 33 (some 141) (.binOp .eql 3 (.tmp 140) (.const (.int .i64 0)) 3) ?v17_8_33 (by rfl) (by kernel_rfl) (by kernel_rfl) (by kernel_rfl) (fun _ _ _ h => h) (fun o ho w hS => ?y17_8_33) (by assumption) ?r17_8_33
                case y17_8_33 => (try dsimp only at hS); unfold execOp; simp only [ho]; go_simp; try with_reducible rfl
                try simp only [Act.put, List.setIfInBounds_toArray, List.set_cons_zero, List.set_cons_succ]
                refine held_run 34 (some 142) (.pick (.tmp 137) (.tmp 141) (.const (Value.bool false))) ?v17_8_34 (by rfl) (by kernel_rfl) (by kernel_rfl) (by kernel_rfl) (fun _ _ _ h => h) (fun o ho w hS => ?y17_8_34) (by assumption) ?r17_8_34
                case y17_8_34 => (try dsimp only at hS); unfold execOp; simp only [ho]; go_simp; try with_reducible rfl
                try simp only [Act.put, List.setIfInBounds_toArray, List.set_cons_zero, List.set_cons_succ]
                refine held_run 35 (some 143) (.pick (.tmp 134) (.const (Value.bool true)) (.tmp 142)) ?v17_8_35 (by rfl) (by kernel_rfl) (by kernel_rfl) (by kernel_rfl) (fun _ _ _ h => h) (fun o ho w hS => ?y17_8_35) (by assumption) ?r17_8_35
                case y17_8_35 => (try dsimp only at hS); unfold execOp; simp only [ho]; go_simp; try with_reducible rfl
                try simp only [Act.put, List.setIfInBounds_toArray, List.set_cons_zero, List.set_cons_succ]
                refine held_run 36 (some 144) (.pick (.tmp 124) (.tmp 143) (.const (Value.bool false))) ?v17_8_36 (by rfl) (by kernel_rfl) (by kernel_rfl) (by kernel_rfl) (fun _ _ _ h => h) (fun o ho w hS => ?y17_8_36) (by assumption) ?r17_8_36
                case y17_8_36 => (try dsimp only at hS); unfold execOp; simp only [ho]; go_simp; try with_reducible rfl
                try simp only [Act.put, List.setIfInBounds_toArray, List.set_cons_zero, List.set_cons_succ]
                refine held_run 37 (some 6) (.assign (.tmp 144)) ?v17_8_37 (by rfl) (by kernel_rfl) (by kernel_rfl) (by kernel_rfl) (fun _ _ _ h => h) (fun o ho w hS => ?y17_8_37) (by assumption) ?r17_8_37
                case y17_8_37 => (try dsimp only at hS); unfold execOp; simp only [ho]; go_simp; try with_reducible rfl
                try simp only [Act.put, List.setIfInBounds_toArray, List.set_cons_zero, List.set_cons_succ]
                refine wpAnyH_done (by kernel_rfl) ?_ _
                go_wp2_with fail
                go_ret
                exact ⟨rfl, HB11.out⟩
              | true =>
                by_cases h1 : lo < ph
                · by_cases h2 : pl < hi
                  · skip
                    go_wp2_with fail
                    have HC2 : Hid (levN x pz pl ph pt = lev) := by
                      show _ = _
                      rw [HL0.out]
                      simp [*]
                    have HX8d := Lib.hid HX8.out.drew
                    have HP8d := Lib.hid HP8.out.drew
                    have HB8d := Lib.hid HB8.out.drew
                    have HZ8d : Hid (Ints w8.drew w8.drew.heap.size _ _ zs) := hide HZ8.out
                    have HR8d : Hid (Buls w8.drew w8.drew.heap.size _ _ l) := hide HR8.out
                    have HU8d : Hid (Buls w8.drew w8.drew.heap.size xA _ x) := hide HU8.out
                    have e1 : (ver == ver) = true := beq_self_eq_true ver
                    have e2 : (lev == lev) = true := beq_self_eq_true lev
                    refine wp_region_held_drew (S := fun W => (Buls W W.heap.size lA ln l) ∧ Blk W w0.heap.size 31 #[.int .i64 ver, .int .i64 fr, .int .i64 ti, .int .i64 lo, .int .i64 hi, .slice bA bn bc, .int .i64 lev] ∧ Blk W w1.heap.size 37 #[.int .i64 pz, .int .i64 pl, .int .i64 ph, .int .i64 pt] ∧ Below w0.heap.size w0 W ∧ Ints W W.heap.size bA bn zs ∧ W.cell? ⟨w0.heap.size, 0, none⟩ = some (.int .i64 ver) ∧ W.cell? ⟨w0.heap.size, 1, none⟩ = some (.int .i64 fr) ∧ W.cell? ⟨w0.heap.size, 2, none⟩ = some (.int .i64 ti) ∧ W.cell? ⟨w0.heap.size, 3, none⟩ = some (.int .i64 lo) ∧ W.cell? ⟨w0.heap.size, 4, none⟩ = some (.int .i64 hi) ∧ W.cell? ⟨w0.heap.size, 5, none⟩ = some (.slice bA bn bc) ∧ W.cell? ⟨w0.heap.size, 6, none⟩ = some (.int .i64 lev) ∧ W.cell? ⟨w1.heap.size, 0, none⟩ = some (.int .i64 pz) ∧ W.cell? ⟨w1.heap.size, 1, none⟩ = some (.int .i64 pl) ∧ W.cell? ⟨w1.heap.size, 2, none⟩ = some (.int .i64 ph) ∧ W.cell? ⟨w1.heap.size, 3, none⟩ = some (.int .i64 pt) ∧ Buls W W.heap.size xA (ln + 1) x) (by kernel_rfl) (⟨HR8d.out, HX8d.out, HP8d.out, HB8d.out, HZ8d.out, HX8d.out.cell 0, HX8d.out.cell 1, HX8d.out.cell 2, HX8d.out.cell 3, HX8d.out.cell 4, HX8d.out.cell 5, HX8d.out.cell 6, HP8d.out.cell 0, HP8d.out.cell 1, HP8d.out.cell 2, HP8d.out.cell 3, HU8d.out⟩) (fun hHeld => ?_)
                    refine held_run 0 (some 108) (.move (.tmp 7)) ?v17_9_0 (by rfl) (by kernel_rfl) (by kernel_rfl) (by kernel_rfl) (fun _ _ _ h => h) (fun o ho w hS => ?y17_9_0) (by assumption) ?r17_9_0
                    case y17_9_0 => (try dsimp only at hS); unfold execOp; simp only [ho]; go_simp; try with_reducible rfl
                    try simp only [Act.put, List.setIfInBounds_toArray, List.set_cons_zero, List.set_cons_succ]
                    refine held_run 1 (some 109) (.fieldAddr 37 (.tmp 5) 3) ?v17_9_1 (by rfl) (by kernel_rfl) (by kernel_rfl) (by kernel_rfl) (fun _ _ _ h => h) (fun o ho w hS => ?y17_9_1) (by assumption) ?r17_9_1
                    case y17_9_1 => (try dsimp only at hS); unfold execOp; simp only [ho]; go_simp; try with_reducible rfl
                    try simp only [Act.put, List.setIfInBounds_toArray, List.set_cons_zero, List.set_cons_succ]
                    refine held_run 2 (some 110) (.load 3 (.tmp 109)) ?v17_9_2 (by rfl) (by kernel_rfl) (by kernel_rfl) (by kernel_rfl) (fun _ _ _ h => h) (fun o ho w hS => ?y17_9_2) (by assumption) ?r17_9_2
                    case y17_9_2 => (try dsimp only at hS); unfold execOp; simp only [ho]; go_simp; try with_reducible rfl
                    try simp only [Act.put, List.setIfInBounds_toArray, List.set_cons_zero, List.set_cons_succ]
                    refine held_run 4 (some 112) (.fieldAddr 31 (.tmp 4) 0) ?v17_9_4 (by rfl) (by kernel_rfl) (by kernel_rfl) (by kernel_rfl) (fun _ _ _ h => h) (fun o ho w hS => ?y17_9_4) (by assumption) ?r17_9_4
                    case y17_9_4 => (try dsimp only at hS); unfold execOp; simp only [ho]; go_simp; try with_reducible rfl
                    try simp only [Act.put, List.setIfInBounds_toArray, List.set_cons_zero, List.set_cons_succ]
                    refine held_run 5 (some 113) (.load 3 (.tmp 112)) ?v17_9_5 (by rfl) (by kernel_rfl) (by kernel_rfl) (by kernel_rfl) (fun _ _ _ h => h) (fun o ho w hS => ?y17_9_5) (by assumption) ?r17_9_5
                    case y17_9_5 => (try dsimp only at hS); unfold execOp; simp only [ho]; go_simp; try with_reducible rfl
                    try simp only [Act.put, List.setIfInBounds_toArray, List.set_cons_zero, List.set_cons_succ]
                    refine held_call 3 (some 111) 17 [(.tmp 108), (.tmp 110)] #[22, 3] #[.slice xA (ln + 1) xc, .int .i64 pt] (by rfl) (by rfl) (by kernel_rfl) Try.func17 (by rfl) (by rfl) ?_
                    refine (HCur.out _ _ _ x _ ver HU8d.out hxm HC1.out).mono ?_
                    rintro e w9 ⟨rfl, hb9⟩
                    have HB9 := Lib.hid (HB8d.out.trans (hb9.mono HB8d.out.size))
                    have HR9 := Lib.hid (HR8d.out.now hb9)
                    have HZ9 := Lib.hid (HZ8d.out.now hb9)
                    have HX9 := Lib.hid (HX8d.out.below hb9 HX8d.out.lt)
                    have HP9 := Lib.hid (HP8d.out.below hb9 HP8d.out.lt)
                    have HU9 := Lib.hid (HU8d.out.now hb9)
                    have hH9 : (fun W => (Buls W W.heap.size lA ln l) ∧ Blk W w0.heap.size 31 #[.int .i64 ver, .int .i64 fr, .int .i64 ti, .int .i64 lo, .int .i64 hi, .slice bA bn bc, .int .i64 lev] ∧ Blk W w1.heap.size 37 #[.int .i64 pz, .int .i64 pl, .int .i64 ph, .int .i64 pt] ∧ Below w0.heap.size w0 W ∧ Ints W W.heap.size bA bn zs ∧ W.cell? ⟨w0.heap.size, 0, none⟩ = some (.int .i64 ver) ∧ W.cell? ⟨w0.heap.size, 1, none⟩ = some (.int .i64 fr) ∧ W.cell? ⟨w0.heap.size, 2, none⟩ = some (.int .i64 ti) ∧ W.cell? ⟨w0.heap.size, 3, none⟩ = some (.int .i64 lo) ∧ W.cell? ⟨w0.heap.size, 4, none⟩ = some (.int .i64 hi) ∧ W.cell? ⟨w0.heap.size, 5, none⟩ = some (.slice bA bn bc) ∧ W.cell? ⟨w0.heap.size, 6, none⟩ = some (.int .i64 lev) ∧ W.cell? ⟨w1.heap.size, 0, none⟩ = some (.int .i64 pz) ∧ W.cell? ⟨w1.heap.size, 1, none⟩ = some (.int .i64 pl) ∧ W.cell? ⟨w1.heap.size, 2, none⟩ = some (.int .i64 ph) ∧ W.cell? ⟨w1.heap.size, 3, none⟩ = some (.int .i64 pt) ∧ Buls W W.heap.size xA (ln + 1) x) w9 := ⟨HR9.out, HX9.out, HP9.out, HB9.out, HZ9.out, HX9.out.cell 0, HX9.out.cell 1, HX9.out.cell 2, HX9.out.cell 3, HX9.out.cell 4, HX9.out.cell 5, HX9.out.cell 6, HP9.out.cell 0, HP9.out.cell 1, HP9.out.cell 2, HP9.out.cell 3, HU9.out⟩
                    refine ⟨_, rfl, hH9, ?_⟩
                    clear hb9
                    try simp only [Act.put, List.setIfInBounds_toArray, List.set_cons_zero, List.set_cons_succ]
                    refine held_run 6 (some 114) (.binOp .eql 3 (.tmp 111) (.tmp 113) 3) ?v17_9_6 (by rfl) (by kernel_rfl) (by kernel_rfl) (by kernel_rfl) (fun _ _ _ h => h) (fun o ho w hS => ?y17_9_6) (by assumption) ?r17_9_6
                    case y17_9_6 => (try dsimp only at hS); unfold execOp; simp only [ho]; go_simp; try with_reducible rfl
                    try simp only [Act.put, List.setIfInBounds_toArray, List.set_cons_zero, List.set_cons_succ]
                    refine held_run 7 (some 115) (.move (.tmp 114)) ?v17_9_7 (by rfl) (by kernel_rfl) (by kernel_rfl) (by kernel_rfl) (fun _ _ _ h => h) (fun o ho w hS => ?y17_9_7) (by assumption) ?r17_9_7
                    case y17_9_7 => (try dsimp only at hS); unfold execOp; simp only [ho]; go_simp; try with_reducible rfl
                    try simp only [Act.put, List.setIfInBounds_toArray, List.set_cons_zero, List.set_cons_succ]
                    refine held_run 8 (some 116) (.move (.tmp 7)) ?v17_9_8 (by rfl) (by kernel_rfl) (by kernel_rfl) (by kernel_rfl) (fun _ _ _ h => h) (fun o ho w hS => ?y17_9_8) (by assumption) ?r17_9_8
                    case y17_9_8 => (try dsimp only at hS); unfold execOp; simp only [ho]; go_simp; try with_reducible rfl
                    try simp only [Act.put, List.setIfInBounds_toArray, List.set_cons_zero, List.set_cons_succ]
                    refine held_run 9 (some 117) (.fieldAddr 37 (.tmp 5) 3) ?v17_9_9 (by rfl) (by kernel_rfl) (by kernel_rfl) (by kernel_rfl) (fun _ _ _ h => h) (fun o ho w hS => ?y17_9_9) (by assumption) ?r17_9_9
                    case y17_9_9 => (try dsimp only at hS); unfold execOp; simp only [ho]; go_simp; try with_reducible rfl
                    try simp only [Act.put, List.setIfInBounds_toArray, List.set_cons_zero, List.set_cons_succ]
                    refine held_run 10 (some 118) (.load 3 (.tmp 117)) ?v17_9_10 (by rfl) (by kernel_rfl) (by kernel_rfl) (by kernel_rfl) (fun _ _ _ h => h) (fun o ho w hS => ?y17_9_10) (by assumption) ?r17_9_10
                    case y17_9_10 => (try dsimp only at hS); unfold execOp; simp only [ho]; go_simp; try with_reducible rfl
                    try simp only [Act.put, List.setIfInBounds_toArray, List.set_cons_zero, List.set_cons_succ]
                    refine held_run 12 (some 120) (.fieldAddr 31 (.tmp 4) 5) ?v17_9_12 (by rfl) (by kernel_rfl) (by kernel_rfl) (by kernel_rfl) (fun _ _ _ h => h) (fun o ho w hS => ?y17_9_12) (by assumption) ?r17_9_12
                    case y17_9_12 => (try dsimp only at hS); unfold execOp; simp only [ho]; go_simp; try with_reducible rfl
                    try simp only [Act.put, List.setIfInBounds_toArray, List.set_cons_zero, List.set_cons_succ]
                    refine held_run 13 (some 121) (.load 3 (.tmp 120)) ?v17_9_13 (by rfl) (by kernel_rfl) (by kernel_rfl) (by kernel_rfl) (fun _ _ _ h => h) (fun o ho w hS => ?y17_9_13) (by assumption) ?r17_9_13
                    case y17_9_13 => (try dsimp only at hS); unfold execOp; simp only [ho]; go_simp; try with_reducible rfl
                    try simp only [Act.put, List.setIfInBounds_toArray, List.set_cons_zero, List.set_cons_succ]
                    refine held_call 11 (some 119) 21 [(.tmp 116), (.tmp 118)] #[22, 3] #[.slice xA (ln + 1) xc, .int .i64 pt] (by rfl) (by rfl) (by kernel_rfl) Try.func21 (by rfl) (by rfl) ?_
                    refine (HWor.out _ _ _ x _ lev HU9.out hxm HC3.out).mono ?_
                    rintro e w10 ⟨rfl, hb10⟩
                    have HB10 := Lib.hid (HB9.out.trans (hb10.mono HB9.out.size))
                    have HR10 := Lib.hid (HR9.out.now hb10)
                    have HZ10 := Lib.hid (HZ9.out.now hb10)
                    have HX10 := Lib.hid (HX9.out.below hb10 HX9.out.lt)
                    have HP10 := Lib.hid (HP9.out.below hb10 HP9.out.lt)
                    have HU10 := Lib.hid (HU9.out.now hb10)
                    have hH10 : (fun W => (Buls W W.heap.size lA ln l) ∧ Blk W w0.heap.size 31 #[.int .i64 ver, .int .i64 fr, .int .i64 ti, .int .i64 lo, .int .i64 hi, .slice bA bn bc, .int .i64 lev] ∧ Blk W w1.heap.size 37 #[.int .i64 pz, .int .i64 pl, .int .i64 ph, .int .i64 pt] ∧ Below w0.heap.size w0 W ∧ Ints W W.heap.size bA bn zs ∧ W.cell? ⟨w0.heap.size, 0, none⟩ = some (.int .i64 ver) ∧ W.cell? ⟨w0.heap.size, 1, none⟩ = some (.int .i64 fr) ∧ W.cell? ⟨w0.heap.size, 2, none⟩ = some (.int .i64 ti) ∧ W.cell? ⟨w0.heap.size, 3, none⟩ = some (.int .i64 lo) ∧ W.cell? ⟨w0.heap.size, 4, none⟩ = some (.int .i64 hi) ∧ W.cell? ⟨w0.heap.size, 5, none⟩ = some (.slice bA bn bc) ∧ W.cell? ⟨w0.heap.size, 6, none⟩ = some (.int .i64 lev) ∧ W.cell? ⟨w1.heap.size, 0, none⟩ = some (.int .i64 pz) ∧ W.cell? ⟨w1.heap.size, 1, none⟩ = some (.int .i64 pl) ∧ W.cell? ⟨w1.heap.size, 2, none⟩ = some (.int .i64 ph) ∧ W.cell? ⟨w1.heap.size, 3, none⟩ = some (.int .i64 pt) ∧ Buls W W.heap.size xA (ln + 1) x) w10 := ⟨HR10.out, HX10.out, HP10.out, HB10.out, HZ10.out, HX10.out.cell 0, HX10.out.cell 1, HX10.out.cell 2, HX10.out.cell 3, HX10.out.cell 4, HX10.out.cell 5, HX10.out.cell 6, HP10.out.cell 0, HP10.out.cell 1, HP10.out.cell 2, HP10.out.cell 3, HU10.out⟩
                    refine ⟨_, rfl, hH10, ?_⟩
                    clear hb10
                    try simp only [Act.put, List.setIfInBounds_toArray, List.set_cons_zero, List.set_cons_succ]
                    refine held_run 14 (some 122) (.binOp .eql 3 (.tmp 119) (.tmp 121) 3) ?v17_9_14 (by rfl) (by kernel_rfl) (by kernel_rfl) (by kernel_rfl) (fun _ _ _ h => h) (fun o ho w hS => ?y17_9_14) (by assumption) ?r17_9_14
                    case y17_9_14 => (try dsimp only at hS); unfold execOp; simp only [ho]; go_simp; try with_reducible rfl
                    try simp only [Act.put, List.setIfInBounds_toArray, List.set_cons_zero, List.set_cons_succ]
                    refine held_run 15 (some 123) (.pick (.tmp 115) (.tmp 122) (.const (Value.bool false))) ?v17_9_15 (by rfl) (by kernel_rfl) (by kernel_rfl) (by kernel_rfl) (fun _ _ _ h => h) (fun o ho w hS => ?y17_9_15) (by assumption) ?r17_9_15
                    case y17_9_15 => (try dsimp only at hS); unfold execOp; simp only [ho]; go_simp; try with_reducible rfl
                    try simp only [Act.put, List.setIfInBounds_toArray, List.set_cons_zero, List.set_cons_succ]
                    refine held_run 16 (some 124) (.move (.tmp 123)) ?v17_9_16 (by rfl) (by kernel_rfl) (by kernel_rfl) (by kernel_rfl) (fun _ _ _ h => h) (fun o ho w hS => ?y17_9_16) (by assumption) ?r17_9_16
                    case y17_9_16 => (try dsimp only at hS); unfold execOp; simp only [ho]; go_simp; try with_reducible rfl
                    try simp only [Act.put, List.setIfInBounds_toArray, List.set_cons_zero, List.set_cons_succ]
                    refine held_run 17 (some 125) (.move (.tmp 9)) ?v17_9_17 (by rfl) (by kernel_rfl) (by kernel_rfl) (by kernel_rfl) (fun _ _ _ h => h) (fun o ho w hS => ?y17_9_17) (by assumption) ?r17_9_17
                    case y17_9_17 => (try dsimp only at hS); unfold execOp; simp only [ho]; go_simp; try with_reducible rfl
                    try simp only [Act.put, List.setIfInBounds_toArray, List.set_cons_zero, List.set_cons_succ]
                    refine held_run 18 (some 126) (.move (.tmp 125)) ?v17_9_18 (by rfl) (by kernel_rfl) (by kernel_rfl) (by kernel_rfl) (fun _ _ _ h => h) (fun o ho w hS => ?y17_9_18) (by assumption) ?r17_9_18
                    case y17_9_18 => (try dsimp only at hS); unfold execOp; simp only [ho]; go_simp; try with_reducible rfl
                    try simp only [Act.put, List.setIfInBounds_toArray, List.set_cons_zero, List.set_cons_succ]
                    refine held_run 19 (some 127) (.move (.tmp 7)) ?v17_9_19 (by rfl) (by kernel_rfl) (by kernel_rfl) (by kernel_rfl) (fun _ _ _ h => h) (fun o ho w hS => ?y17_9_19) (by assumption) ?r17_9_19
                    case y17_9_19 => (try dsimp only at hS); unfold execOp; simp only [ho]; go_simp; try with_reducible rfl
                    try simp only [Act.put, List.setIfInBounds_toArray, List.set_cons_zero, List.set_cons_succ]
                    refine held_load 20 (some 128) 37 (.tmp 5) (by rfl) (by kernel_rfl) (by kernel_rfl) (by kernel_rfl) (w1.heap.size) 37 #[.int .i64 pz, .int .i64 pl, .int .i64 ph, .int .i64 pt] (fun _ _ _ h => h) (by rfl) (fun _ h => h.2.2.1) _ Try.underlying37 rfl (by kernel_rfl) (by assumption) ?_
                    try simp only [Act.put, List.setIfInBounds_toArray, List.set_cons_zero, List.set_cons_succ]
                    refine held_run 22 (some 130) (.fieldAddr 31 (.tmp 4) 5) ?v17_9_22 (by rfl) (by kernel_rfl) (by kernel_rfl) (by kernel_rfl) (fun _ _ _ h => h) (fun o ho w hS => ?y17_9_22) (by assumption) ?r17_9_22
                    case y17_9_22 => (try dsimp only at hS); unfold execOp; simp only [ho]; go_simp; try with_reducible rfl
                    try simp only [Act.put, List.setIfInBounds_toArray, List.set_cons_zero, List.set_cons_succ]
                    refine held_run 23 (some 131) (.load 3 (.tmp 130)) ?v17_9_23 (by rfl) (by kernel_rfl) (by kernel_rfl) (by kernel_rfl) (fun _ _ _ h => h) (fun o ho w hS => ?y17_9_23) (by assumption) ?r17_9_23
                    case y17_9_23 => (try dsimp only at hS); unfold execOp; simp only [ho]; go_simp; try with_reducible rfl
                    try simp only [Act.put, List.setIfInBounds_toArray, List.set_cons_zero, List.set_cons_succ]
                    refine held_call 21 (some 129) 19 [(.tmp 127), (.tmp 128)] #[22, 37] #[.slice xA (ln + 1) xc, .agg #[.int .i64 pz, .int .i64 pl, .int .i64 ph, .int .i64 pt]] (by rfl) (by rfl) (by kernel_rfl) Try.func19 (by rfl) (by rfl) ?_
                    refine (HLev.out _ _ _ x _ lev HU10.out hxm HC2.out).mono ?_
                    rintro e w11 ⟨rfl, hb11⟩
                    have HB11 := Lib.hid (HB10.out.trans (hb11.mono HB10.out.size))
                    have HR11 := Lib.hid (HR10.out.now hb11)
                    have HZ11 := Lib.hid (HZ10.out.now hb11)
                    have HX11 := Lib.hid (HX10.out.below hb11 HX10.out.lt)
                    have HP11 := Lib.hid (HP10.out.below hb11 HP10.out.lt)
                    have HU11 := Lib.hid (HU10.out.now hb11)
                    have hH11 : (fun W => (Buls W W.heap.size lA ln l) ∧ Blk W w0.heap.size 31 #[.int .i64 ver, .int .i64 fr, .int .i64 ti, .int .i64 lo, .int .i64 hi, .slice bA bn bc, .int .i64 lev] ∧ Blk W w1.heap.size 37 #[.int .i64 pz, .int .i64 pl, .int .i64 ph, .int .i64 pt] ∧ Below w0.heap.size w0 W ∧ Ints W W.heap.size bA bn zs ∧ W.cell? ⟨w0.heap.size, 0, none⟩ = some (.int .i64 ver) ∧ W.cell? ⟨w0.heap.size, 1, none⟩ = some (.int .i64 fr) ∧ W.cell? ⟨w0.heap.size, 2, none⟩ = some (.int .i64 ti) ∧ W.cell? ⟨w0.heap.size, 3, none⟩ = some (.int .i64 lo) ∧ W.cell? ⟨w0.heap.size, 4, none⟩ = some (.int .i64 hi) ∧ W.cell? ⟨w0.heap.size, 5, none⟩ = some (.slice bA bn bc) ∧ W.cell? ⟨w0.heap.size, 6, none⟩ = some (.int .i64 lev) ∧ W.cell? ⟨w1.heap.size, 0, none⟩ = some (.int .i64 pz) ∧ W.cell? ⟨w1.heap.size, 1, none⟩ = some (.int .i64 pl) ∧ W.cell? ⟨w1.heap.size, 2, none⟩ = some (.int .i64 ph) ∧ W.cell? ⟨w1.heap.size, 3, none⟩ = some (.int .i64 pt) ∧ Buls W W.heap.size xA (ln + 1) x) w11 := ⟨HR11.out, HX11.out, HP11.out, HB11.out, HZ11.out, HX11.out.cell 0, HX11.out.cell 1, HX11.out.cell 2, HX11.out.cell 3, HX11.out.cell 4, HX11.out.cell 5, HX11.out.cell 6, HP11.out.cell 0, HP11.out.cell 1, HP11.out.cell 2, HP11.out.cell 3, HU11.out⟩
                    refine ⟨_, rfl, hH11, ?_⟩
                    clear hb11
                    try simp only [Act.put, List.setIfInBounds_toArray, List.set_cons_zero, List.set_cons_succ]
                    refine held_run 24 (some 132) (.binOp .eql 3 (.tmp 129) (.tmp 131) 3) ?v17_9_24 (by rfl) (by kernel_rfl) (by kernel_rfl) (by kernel_rfl) (fun _ _ _ h => h) (fun o ho w hS => ?y17_9_24) (by assumption) ?r17_9_24
                    case y17_9_24 => (try dsimp only at hS); unfold execOp; simp only [ho]; go_simp; try with_reducible rfl
                    try simp only [Act.put, List.setIfInBounds_toArray, List.set_cons_zero, List.set_cons_succ]
                    refine held_run 25 (some 133) (.pick (.tmp 126) (.tmp 132) (.const (Value.bool false))) ?v17_9_25 (by rfl) (by kernel_rfl) (by kernel_rfl) (by kernel_rfl) (fun _ _ _ h => h) (fun o ho w hS => ?y17_9_25) (by assumption) ?r17_9_25
                    case y17_9_25 => (try dsimp only at hS); unfold execOp; simp only [ho]; go_simp; try with_reducible rfl
                    try simp only [Act.put, List.setIfInBounds_toArray, List.set_cons_zero, List.set_cons_succ]
                    refine held_run 26 (some 134) (.move (.tmp 133)) ?v17_9_26 (by rfl) (by kernel_rfl) (by kernel_rfl) (by kernel_rfl) (fun _ _ _ h => h) (fun o ho w hS => ?y17_9_26) (by assumption) ?r17_9_26
                    case y17_9_26 => (try dsimp only at hS); unfold execOp; simp only [ho]; go_simp; try with_reducible rfl
                    try simp only [Act.put, List.setIfInBounds_toArray, List.set_cons_zero, List.set_cons_succ]
                    refine held_skip 27 (some 135) (by rfl) (by kernel_rfl) (by kernel_rfl) (by kernel_rfl) (fun _ _ _ h => h) (by assumption) ?_
                    try simp only [Act.put, List.setIfInBounds_toArray, List.set_cons_zero, List.set_cons_succ]
                    refine held_skip 28 (some 136) (by rfl) (by kernel_rfl) (by kernel_rfl) (by kernel_rfl) (fun _ _ _ h => h) (by assumption) ?_
                    try simp only [Act.put, List.setIfInBounds_toArray, List.set_cons_zero, List.set_cons_succ]
                    refine held_skip 29 (some 137) (by rfl) (by kernel_rfl) (by kernel_rfl) (by kernel_rfl) (fun _ _ _ h => h) (by assumption) ?_
                    try simp only [Act.put, List.setIfInBounds_toArray, List.set_cons_zero, List.set_cons_succ]
                    refine held_skip 30 (some 138) (by rfl) (by kernel_rfl) (by kernel_rfl) (by kernel_rfl) (fun _ _ _ h => h) (by assumption) ?_
                    try simp only [Act.put, List.setIfInBounds_toArray, List.set_cons_zero, List.set_cons_succ]
                    refine held_skip 31 (some 139) (by rfl) (by kernel_rfl) (by kernel_rfl) (by kernel_rfl) (fun _ _ _ h => h) (by assumption) ?_
                    try simp only [Act.put, List.setIfInBounds_toArray, List.set_cons_zero, List.set_cons_succ]
                    refine held_skip 32 (some 140) (by rfl) (by kernel_rfl) (by kernel_rfl) (by kernel_rfl) (fun _ _ _ h => h) (by assumption) ?_
                    try simp only [Act.put, List.setIfInBounds_toArray, List.set_cons_zero, List.set_cons_succ]
                    refine held_skip 33 (some 141) (by rfl) (by kernel_rfl) (by kernel_rfl) (by kernel_rfl) (fun _ _ _ h => h) (by assumption) ?_
                    try simp only [Act.put, List.setIfInBounds_toArray, List.set_cons_zero, List.set_cons_succ]
                    refine held_skip 34 (some 142) (by rfl) (by kernel_rfl) (by kernel_rfl) (by kernel_rfl) (fun _ _ _ h => h) (by assumption) ?_
                    try simp only [Act.put, List.setIfInBounds_toArray, List.set_cons_zero, List.set_cons_succ]
                    refine held_run 35 (some 143) (.pick (.tmp 134) (.const (Value.bool true)) (.tmp 142)) ?v17_9_35 (by rfl) (by kernel_rfl) (by kernel_rfl) (by kernel_rfl) (fun _ _ _ h => h) (fun o ho w hS => ?y17_9_35) (by assumption) ?r17_9_35
                    case y17_9_35 => (try dsimp only at hS); unfold execOp; simp only [ho]; go_simp; try with_reducible rfl
                    try simp only [Act.put, List.setIfInBounds_toArray, List.set_cons_zero, List.set_cons_succ]
                    refine held_run 36 (some 144) (.pick (.tmp 124) (.tmp 143) (.const (Value.bool false))) ?v17_9_36 (by rfl) (by kernel_rfl) (by kernel_rfl) (by kernel_rfl) (fun _ _ _ h => h) (fun o ho w hS => ?y17_9_36) (by assumption) ?r17_9_36
                    case y17_9_36 => (try dsimp only at hS); unfold execOp; simp only [ho]; go_simp; try with_reducible rfl
                    try simp only [Act.put, List.setIfInBounds_toArray, List.set_cons_zero, List.set_cons_succ]
                    refine held_run 37 (some 6) (.assign (.tmp 144)) ?v17_9_37 (by rfl) (by kernel_rfl) (by kernel_rfl) (by kernel_rfl) (fun _ _ _ h => h) (fun o ho w hS => ?y17_9_37) (by assumption) ?r17_9_37
                    case y17_9_37 => (try dsimp only at hS); unfold execOp; simp only [ho]; go_simp; try with_reducible rfl
                    try simp only [Act.put, List.setIfInBounds_toArray, List.set_cons_zero, List.set_cons_succ]
                    refine wpAnyH_done (by kernel_rfl) ?_ _
                    go_wp2_with fail
                    go_ret
                    exact ⟨rfl, HB11.out⟩
                  · skip
                    go_wp2_with fail
                    have HC2 : Hid (levN x pz pl ph pt = 0) := by
                      show _ = _
                      rw [HL0.out]
                      exact if_neg (fun h => by simp at h <;> omega)
                    have HX8d := Lib.hid HX8.out.drew
                    have HP8d := Lib.hid HP8.out.drew
                    have HB8d := Lib.hid HB8.out.drew
                    have HZ8d : Hid (Ints w8.drew w8.drew.heap.size _ _ zs) := hide HZ8.out
                    have HR8d : Hid (Buls w8.drew w8.drew.heap.size _ _ l) := hide HR8.out
                    have HU8d : Hid (Buls w8.drew w8.drew.heap.size xA _ x) := hide HU8.out
                    have e1 : (ver == ver) = true := beq_self_eq_true ver
                    have e2 : (lev == lev) = true := beq_self_eq_true lev
                    refine wp_region_held_drew (S := fun W => (Buls W W.heap.size lA ln l) ∧ Blk W w0.heap.size 31 #[.int .i64 ver, .int .i64 fr, .int .i64 ti, .int .i64 lo, .int .i64 hi, .slice bA bn bc, .int .i64 lev] ∧ Blk W w1.heap.size 37 #[.int .i64 pz, .int .i64 pl, .int .i64 ph, .int .i64 pt] ∧ Below w0.heap.size w0 W ∧ Ints W W.heap.size bA bn zs ∧ W.cell? ⟨w0.heap.size, 0, none⟩ = some (.int .i64 ver) ∧ W.cell? ⟨w0.heap.size, 1, none⟩ = some (.int .i64 fr) ∧ W.cell? ⟨w0.heap.size, 2, none⟩ = some (.int .i64 ti) ∧ W.cell? ⟨w0.heap.size, 3, none⟩ = some (.int .i64 lo) ∧ W.cell? ⟨w0.heap.size, 4, none⟩ = some (.int .i64 hi) ∧ W.cell? ⟨w0.heap.size, 5, none⟩ = some (.slice bA bn bc) ∧ W.cell? ⟨w0.heap.size, 6, none⟩ = some (.int .i64 lev) ∧ W.cell? ⟨w1.heap.size, 0, none⟩ = some (.int .i64 pz) ∧ W.cell? ⟨w1.heap.size, 1, none⟩ = some (.int .i64 pl) ∧ W.cell? ⟨w1.heap.size, 2, none⟩ = some (.int .i64 ph) ∧ W.cell? ⟨w1.heap.size, 3, none⟩ = some (.int .i64 pt) ∧ Buls W W.heap.size xA (ln + 1) x) (by kernel_rfl) (⟨HR8d.out, HX8d.out, HP8d.out, HB8d.out, HZ8d.out, HX8d.out.cell 0, HX8d.out.cell 1, HX8d.out.cell 2, HX8d.out.cell 3, HX8d.out.cell 4, HX8d.out.cell 5, HX8d.out.cell 6, HP8d.out.cell 0, HP8d.out.cell 1, HP8d.out.cell 2, HP8d.out.cell 3, HU8d.out⟩) (fun hHeld => ?_)
                    refine held_run 0 (some 108) (.move (.tmp 7)) ?v17_10_0 (by rfl) (by kernel_rfl) (by kernel_rfl) (by kernel_rfl) (fun _ _ _ h => h) (fun o ho w hS => ?y17_10_0) (by assumption) ?r17_10_0
                    case y17_10_0 => (try dsimp only at hS); unfold execOp; simp only [ho]; go_simp; try with_reducible rfl
                    try simp only [Act.put, List.setIfInBounds_toArray, List.set_cons_zero, List.set_cons_succ]
                    refine held_run 1 (some 109) (.fieldAddr 37 (.tmp 5) 3) ?v17_10_1 (by rfl) (by kernel_rfl) (by kernel_rfl) (by kernel_rfl) (fun _ _ _ h => h) (fun o ho w hS => ?y17_10_1) (by assumption) ?r17_10_1
                    case y17_10_1 => (try dsimp only at hS); unfold execOp; simp only [ho]; go_simp; try with_reducible rfl
                    try simp only [Act.put, List.setIfInBounds_toArray, List.set_cons_zero, List.set_cons_succ]
                    refine held_run 2 (some 110) (.load 3 (.tmp 109)) ?v17_10_2 (by rfl) (by kernel_rfl) (by kernel_rfl) (by kernel_rfl) (fun _ _ _ h => h) (fun o ho w hS => ?y17_10_2) (by assumption) ?r17_10_2
                    case y17_10_2 => (try dsimp only at hS); unfold execOp; simp only [ho]; go_simp; try with_reducible rfl
                    try simp only [Act.put, List.setIfInBounds_toArray, List.set_cons_zero, List.set_cons_succ]
                    refine held_run 4 (some 112) (.fieldAddr 31 (.tmp 4) 0) ?v17_10_4 (by rfl) (by kernel_rfl) (by kernel_rfl) (by kernel_rfl) (fun _ _ _ h => h) (fun o ho w hS => ?y17_10_4) (by assumption) ?r17_10_4
                    case y17_10_4 => (try dsimp only at hS); unfold execOp; simp only [ho]; go_simp; try with_reducible rfl
                    try simp only [Act.put, List.setIfInBounds_toArray, List.set_cons_zero, List.set_cons_succ]
                    refine held_run 5 (some 113) (.load 3 (.tmp 112)) ?v17_10_5 (by rfl) (by kernel_rfl) (by kernel_rfl) (by kernel_rfl) (fun _ _ _ h => h) (fun o ho w hS => ?y17_10_5) (by assumption) ?r17_10_5
                    case y17_10_5 => (try dsimp only at hS); unfold execOp; simp only [ho]; go_simp; try with_reducible rfl
                    try simp only [Act.put, List.setIfInBounds_toArray, List.set_cons_zero, List.set_cons_succ]
                    refine held_call 3 (some 111) 17 [(.tmp 108), (.tmp 110)] #[22, 3] #[.slice xA (ln + 1) xc, .int .i64 pt] (by rfl) (by rfl) (by kernel_rfl) Try.func17 (by rfl) (by rfl) ?_
                    refine (HCur.out _ _ _ x _ ver HU8d.out hxm HC1.out).mono ?_
                    rintro e w9 ⟨rfl, hb9⟩
                    have HB9 := Lib.hid (HB8d.out.trans (hb9.mono HB8d.out.size))
                    have HR9 := Lib.hid (HR8d.out.now hb9)
                    have HZ9 := Lib.hid (HZ8d.out.now hb9)
                    have HX9 := Lib.hid (HX8d.out.below hb9 HX8d.out.lt)
                    have HP9 := Lib.hid (HP8d.out.below hb9 HP8d.out.lt)
                    have HU9 := Lib.hid (HU8d.out.now hb9)
                    have hH9 : (fun W => (Buls W W.heap.size lA ln l) ∧ Blk W w0.heap.size 31 #[.int .i64 ver, .int .i64 fr, .int .i64 ti, .int .i64 lo, .int .i64 hi, .slice bA bn bc, .int .i64 lev] ∧ Blk W w1.heap.size 37 #[.int .i64 pz, .int .i64 pl, .int .i64 ph, .int .i64 pt] ∧ Below w0.heap.size w0 W ∧ Ints W W.heap.size bA bn zs ∧ W.cell? ⟨w0.heap.size, 0, none⟩ = some (.int .i64 ver) ∧ W.cell? ⟨w0.heap.size, 1, none⟩ = some (.int .i64 fr) ∧ W.cell? ⟨w0.heap.size, 2, none⟩ = some (.int .i64 ti) ∧ W.cell? ⟨w0.heap.size, 3, none⟩ = some (.int .i64 lo) ∧ W.cell? ⟨w0.heap.size, 4, none⟩ = some (.int .i64 hi) ∧ W.cell? ⟨w0.heap.size, 5, none⟩ = some (.slice bA bn bc) ∧ W.cell? ⟨w0.heap.size, 6, none⟩ = some (.int .i64 lev) ∧ W.cell? ⟨w1.heap.size, 0, none⟩ = some (.int .i64 pz) ∧ W.cell? ⟨w1.heap.size, 1, none⟩ = some (.int .i64 pl) ∧ W.cell? ⟨w1.heap.size, 2, none⟩ = some (.int .i64 ph) ∧ W.cell? ⟨w1.heap.size, 3, none⟩ = some (.int .i64 pt) ∧ Buls W W.heap.size xA (ln + 1) x) w9 := ⟨HR9.out, HX9.out, HP9.out, HB9.out, HZ9.out, HX9.out.cell 0, HX9.out.cell 1, HX9.out.cell 2, HX9.out.cell 3, HX9.out.cell 4, HX9.out.cell 5, HX9.out.cell 6, HP9.out.cell 0, HP9.out.cell 1, HP9.out.cell 2, HP9.out.cell 3, HU9.out⟩
                    refine ⟨_, rfl, hH9, ?_⟩
                    clear hb9
                    try simp only [Act.put, List.setIfInBounds_toArray, List.set_cons_zero, List.set_cons_succ]
                    refine held_run 6 (some 114) (.binOp .eql 3 (.tmp 111) (.tmp 113) 3) ?v17_10_6 (by rfl) (by kernel_rfl) (by kernel_rfl) (by kernel_rfl) (fun _ _ _ h => h) (fun o ho w hS => ?y17_10_6) (by assumption) ?r17_10_6
                    case y17_10_6 => (try dsimp only at hS); unfold execOp; simp only [ho]; go_simp; try with_reducible rfl
                    try simp only [Act.put, List.setIfInBounds_toArray, List.set_cons_zero, List.set_cons_succ]
                    refine held_run 7 (some 115) (.move (.tmp 114)) ?v17_10_7 (by rfl) (by kernel_rfl) (by kernel_rfl) (by kernel_rfl) (fun _ _ _ h => h) (fun o ho w hS => ?y17_10_7) (by assumption) ?r17_10_7
                    case y17_10_7 => (try dsimp only at hS); unfold execOp; simp only [ho]; go_simp; try with_reducible rfl
                    try simp only [Act.put, List.setIfInBounds_toArray, List.set_cons_zero, List.set_cons_succ]
                    refine held_run 8 (some 116) (.move (.tmp 7)) ?v17_10_8 (by rfl) (by kernel_rfl) (by kernel_rfl) (by kernel_rfl) (fun _ _ _ h => h) (fun o ho w hS => ?y17_10_8) (by assumption) ?r17_10_8
                    case y17_10_8 => (try dsimp only at hS); unfold execOp; simp only [ho]; go_simp; try with_reducible rfl
                    try simp only [Act.put, List.setIfInBounds_toArray, List.set_cons_zero, List.set_cons_succ]
                    refine held_run 9 (some 117) (.fieldAddr 37 (.tmp 5) 3) ?v17_10_9 (by rfl) (by kernel_rfl) (by kernel_rfl) (by kernel_rfl) (fun _ _ _ h => h) (fun o ho w hS => ?y17_10_9) (by assumption) ?r17_10_9
                    case y17_10_9 => (try dsimp only at hS); unfold execOp; simp only [ho]; go_simp; try with_reducible rfl
                    try simp only [Act.put, List.setIfInBounds_toArray, List.set_cons_zero, List.set_cons_succ]
                    refine held_run 10 (some 118) (.load 3 (.tmp 117)) ?v17_10_10 (by rfl) (by kernel_rfl) (by kernel_rfl) (by kernel_rfl) (fun _ _ _ h => h) (fun o ho w hS => ?y17_10_10) (by assumption) ?r17_10_10
                    case y17_10_10 => (try dsimp only at hS); unfold execOp; simp only [ho]; go_simp; try with_reducible rfl
                    try simp only [Act.put, List.setIfInBounds_toArray, List.set_cons_zero, List.set_cons_succ]
                    refine held_run 12 (some 120) (.fieldAddr 31 (.tmp 4) 5) ?v17_10_12 (by rfl) (by kernel_rfl) (by kernel_rfl) (by kernel_rfl) (fun _ _ _ h => h) (fun o ho w hS => ?y17_10_12) (by assumption) ?r17_10_12
                    case y17_10_12 => (try dsimp only at hS); unfold execOp; simp only [ho]; go_simp; try with_reducible rfl
                    try simp only [Act.put, List.setIfInBounds_toArray, List.set_cons_zero, List.set_cons_succ]
                    refine held_run 13 (some 121) (.load 3 (.tmp 120)) ?v17_10_13 (by rfl) (by kernel_rfl) (by kernel_rfl) (by kernel_rfl) (fun _ _ _ h => h) (fun o ho w hS => ?y17_10_13) (by assumption) ?r17_10_13
                    case y17_10_13 => (try dsimp only at hS); unfold execOp; simp only [ho]; go_simp; try with_reducible rfl
                    try simp only [Act.put, List.setIfInBounds_toArray, List.set_cons_zero, List.set_cons_succ]
                    refine held_call 11 (some 119) 21 [(.tmp 116), (.tmp 118)] #[22, 3] #[.slice xA (ln + 1) xc, .int .i64 pt] (by rfl) (by rfl) (by kernel_rfl) Try.func21 (by rfl) (by rfl) ?_
                    refine (HWor.out _ _ _ x _ lev HU9.out hxm HC3.out).mono ?_
                    rintro e w10 ⟨rfl, hb10⟩
                    have HB10 := Lib.hid (HB9.out.trans (hb10.mono HB9.out.size))
                    have HR10 := Lib.hid (HR9.out.now hb10)
                    have HZ10 := Lib.hid (HZ9.out.now hb10)
                    have HX10 := Lib.hid (HX9.out.below hb10 HX9.out.lt)
                    have HP10 := Lib.hid (HP9.out.below hb10 HP9.out.lt)
                    have HU10 := Lib.hid (HU9.out.now hb10)
                    have hH10 : (fun W => (Buls W W.heap.size lA ln l) ∧ Blk W w0.heap.size 31 #[.int .i64 ver, .int .i64 fr, .int .i64 ti, .int .i64 lo, .int .i64 hi, .slice bA bn bc, .int .i64 lev] ∧ Blk W w1.heap.size 37 #[.int .i64 pz, .int .i64 pl, .int .i64 ph, .int .i64 pt] ∧ Below w0.heap.size w0 W ∧ Ints W W.heap.size bA bn zs ∧ W.cell? ⟨w0.heap.size, 0, none⟩ = some (.int .i64 ver) ∧ W.cell? ⟨w0.heap.size, 1, none⟩ = some (.int .i64 fr) ∧ W.cell? ⟨w0.heap.size, 2, none⟩ = some (.int .i64 ti) ∧ W.cell? ⟨w0.heap.size, 3, none⟩ = some (.int .i64 lo) ∧ W.cell? ⟨w0.heap.size, 4, none⟩ = some (.int .i64 hi) ∧ W.cell? ⟨w0.heap.size, 5, none⟩ = some (.slice bA bn bc) ∧ W.cell? ⟨w0.heap.size, 6, none⟩ = some (.int .i64 lev) ∧ W.cell? ⟨w1.heap.size, 0, none⟩ = some (.int .i64 pz) ∧ W.cell? ⟨w1.heap.size, 1, none⟩ = some (.int .i64 pl) ∧ W.cell? ⟨w1.heap.size, 2, none⟩ = some (.int .i64 ph) ∧ W.cell? ⟨w1.heap.size, 3, none⟩ = some (.int .i64 pt) ∧ Buls W W.heap.size xA (ln + 1) x) w10 := ⟨HR10.out, HX10.out, HP10.out, HB10.out, HZ10.out, HX10.out.cell 0, HX10.out.cell 1, HX10.out.cell 2, HX10.out.cell 3, HX10.out.cell 4, HX10.out.cell 5, HX10.out.cell 6, HP10.out.cell 0, HP10.out.cell 1, HP10.out.cell 2, HP10.out.cell 3, HU10.out⟩
                    refine ⟨_, rfl, hH10, ?_⟩
                    clear hb10
                    try simp only [Act.put, List.setIfInBounds_toArray, List.set_cons_zero, List.set_cons_succ]
                    refine held_run 14 (some 122) (.binOp .eql 3 (.tmp 119) (.tmp 121) 3) ?v17_10_14 (by rfl) (by kernel_rfl) (by kernel_rfl) (by kernel_rfl) (fun _ _ _ h => h) (fun o ho w hS => ?y17_10_14) (by assumption) ?r17_10_14
                    case y17_10_14 => (try dsimp only at hS); unfold execOp; simp only [ho]; go_simp; try with_reducible rfl
                    try simp only [Act.put, List.setIfInBounds_toArray, List.set_cons_zero, List.set_cons_succ]
                    refine held_run 15 (some 123) (.pick (.tmp 115) (.tmp 122) (.const (Value.bool false))) ?v17_10_15 (by rfl) (by kernel_rfl) (by kernel_rfl) (by kernel_rfl) (fun _ _ _ h => h) (fun o ho w hS => ?y17_10_15) (by assumption) ?r17_10_15
                    case y17_10_15 => (try dsimp only at hS); unfold execOp; simp only [ho]; go_simp; try with_reducible rfl
                    try simp only [Act.put, List.setIfInBounds_toArray, List.set_cons_zero, List.set_cons_succ]
                    refine held_run 16 (some 124) (.move (.tmp 123)) ?v17_10_16 (by rfl) (by kernel_rfl) (by kernel_rfl) (by kernel_rfl) (fun _ _ _ h => h) (fun o ho w hS => ?y17_10_16) (by assumption) ?r17_10_16
                    case y17_10_16 => (try dsimp only at hS); unfold execOp; simp only [ho]; go_simp; try with_reducible rfl
                    try simp only [Act.put, List.setIfInBounds_toArray, List.set_cons_zero, List.set_cons_succ]
                    refine held_run 17 (some 125) (.move (.tmp 9)) ?v17_10_17 (by rfl) (by kernel_rfl) (by kernel_rfl) (by kernel_rfl) (fun _ _ _ h => h) (fun o ho w hS => ?y17_10_17) (by assumption) ?r17_10_17
                    case y17_10_17 => (try dsimp only at hS); unfold execOp; simp only [ho]; go_simp; try with_reducible rfl
                    try simp only [Act.put, List.setIfInBounds_toArray, List.set_cons_zero, List.set_cons_succ]
                    refine held_run 18 (some 126) (.move (.tmp 125)) ?v17_10_18 (by rfl) (by kernel_rfl) (by kernel_rfl) (by kernel_rfl) (fun _ _ _ h => h) (fun o ho w hS => ?y17_10_18) (by assumption) ?r17_10_18
                    case y17_10_18 => (try dsimp only at hS); unfold execOp; simp only [ho]; go_simp; try with_reducible rfl
                    try simp only [Act.put, List.setIfInBounds_toArray, List.set_cons_zero, List.set_cons_succ]
                    refine held_skip 19 (some 127) (by rfl) (by kernel_rfl) (by kernel_rfl) (by kernel_rfl) (fun _ _ _ h => h) (by assumption) ?_
                    try simp only [Act.put, List.setIfInBounds_toArray, List.set_cons_zero, List.set_cons_succ]
                    refine held_skip 20 (some 128) (by rfl) (by kernel_rfl) (by kernel_rfl) (by kernel_rfl) (fun _ _ _ h => h) (by assumption) ?_
                    try simp only [Act.put, List.setIfInBounds_toArray, List.set_cons_zero, List.set_cons_succ]
                    refine held_skip 22 (some 130) (by rfl) (by kernel_rfl) (by kernel_rfl) (by kernel_rfl) (fun _ _ _ h => h) (by assumption) ?_
                    try simp only [Act.put, List.setIfInBounds_toArray, List.set_cons_zero, List.set_cons_succ]
                    refine held_skip 23 (some 131) (by rfl) (by kernel_rfl) (by kernel_rfl) (by kernel_rfl) (fun _ _ _ h => h) (by assumption) ?_
                    try simp only [Act.put, List.setIfInBounds_toArray, List.set_cons_zero, List.set_cons_succ]
                    refine held_skip 21 (some 129) (by rfl) (by kernel_rfl) (by kernel_rfl) (by kernel_rfl) (fun _ _ _ h => h) (by assumption) ?_
                    try simp only [Act.put, List.setIfInBounds_toArray, List.set_cons_zero, List.set_cons_succ]
                    refine held_skip 24 (some 132) (by rfl) (by kernel_rfl) (by kernel_rfl) (by kernel_rfl) (fun _ _ _ h => h) (by assumption) ?_
                    try simp only [Act.put, List.setIfInBounds_toArray, List.set_cons_zero, List.set_cons_succ]
                    refine held_run 25 (some 133) (.pick (.tmp 126) (.tmp 132) (.const (Value.bool false))) ?v17_10_25 (by rfl) (by kernel_rfl) (by kernel_rfl) (by kernel_rfl) (fun _ _ _ h => h) (fun o ho w hS => ?y17_10_25) (by assumption) ?r17_10_25
                    case y17_10_25 => (try dsimp only at hS); unfold execOp; simp only [ho]; go_simp; try with_reducible rfl
                    try simp only [Act.put, List.setIfInBounds_toArray, List.set_cons_zero, List.set_cons_succ]
                    refine held_run 26 (some 134) (.move (.tmp 133)) ?v17_10_26 (by rfl) (by kernel_rfl) (by kernel_rfl) (by kernel_rfl) (fun _ _ _ h => h) (fun o ho w hS => ?y17_10_26) (by assumption) ?r17_10_26
                    case y17_10_26 => (try dsimp only at hS); unfold execOp; simp only [ho]; go_simp; try with_reducible rfl
                    try simp only [Act.put, List.setIfInBounds_toArray, List.set_cons_zero, List.set_cons_succ]
                    refine held_run 27 (some 135) (.move (.tmp 9)) ?v17_10_27 (by rfl) (by kernel_rfl) (by kernel_rfl) (by kernel_rfl) (fun _ _ _ h => h) (fun o ho w hS => ?y17_10_27) (by assumption) ?r17_10_27
                    case y17_10_27 => (try dsimp only at hS); unfold execOp; simp only [ho]; go_simp; try with_reducible rfl
                    try simp only [Act.put, List.setIfInBounds_toArray, List.set_cons_zero, List.set_cons_succ]
                    refine held_run 28 (some 136) (.unOp .not 4 (.tmp 135)) ?v17_10_28 (by rfl) (by kernel_rfl) (by kernel_rfl) (by kernel_rfl) (fun _ _ _ h => h) (fun o ho w hS => ?y17_10_28) (by assumption) ?r17_10_28
                    case y17_10_28 => (try dsimp only at hS); unfold execOp; simp only [ho]; go_simp; try with_reducible rfl
                    try simp only [Act.put, List.setIfInBounds_toArray, List.set_cons_zero, List.set_cons_succ]
                    refine held_run 29 (some 137) (.move (.tmp 136)) ?v17_10_29 (by rfl) (by kernel_rfl) (by kernel_rfl) (by kernel_rfl) (fun _ _ _ h => h) (fun o ho w hS => ?y17_10_29) (by assumption) ?r17_10_29
                    case y17_10_29 => (try dsimp only at hS); unfold execOp; simp only [ho]; go_simp; try with_reducible rfl
                    try simp only [Act.put, List.setIfInBounds_toArray, List.set_cons_zero, List.set_cons_succ]
                    refine held_run 30 (some 138) (.move (.tmp 7)) ?v17_10_30 (by rfl) (by kernel_rfl) (by kernel_rfl) (by kernel_rfl) (fun _ _ _ h => h) (fun o ho w hS => ?y17_10_30) (by assumption) ?r17_10_30
                    case y17_10_30 => (try dsimp only at hS); unfold execOp; simp only [ho]; go_simp; try with_reducible rfl
                    try simp only [Act.put, List.setIfInBounds_toArray, List.set_cons_zero, List.set_cons_succ]
                    refine held_load 31 (some 139) 37 (.tmp 5) (by rfl) (by kernel_rfl) (by kernel_rfl) (by kernel_rfl) (w1.heap.size) 37 #[.int .i64 pz, .int .i64 pl, .int .i64 ph, .int .i64 pt] (fun _ _ _ h => h) (by rfl) (fun _ h => h.2.2.1) _ Try.underlying37 rfl (by kernel_rfl) (by assumption) ?_
                    try simp only [Act.put, List.setIfInBounds_toArray, List.set_cons_zero, List.set_cons_succ]
                    refine held_call 32 (some 140) 19 [(.tmp 138), (.tmp 139)] #[22, 37] #[.slice xA (ln + 1) xc, .agg #[.int .i64 pz, .int .i64 pl, .int .i64 ph, .int .i64 pt]] (by rfl) (by rfl) (by kernel_rfl) Try.func19 (by rfl) (by rfl) ?_
                    refine (HLev.out _ _ _ x _ 0 HU10.out hxm HC2.out).mono ?_
                    rintro e w11 ⟨rfl, hb11⟩
                    have HB11 := Lib.hid (HB10.out.trans (hb11.mono HB10.out.size))
                    have HR11 := Lib.hid (HR10.out.now hb11)
                    have HZ11 := Lib.hid (HZ10.out.now hb11)
                    have HX11 := Lib.hid (HX10.out.below hb11 HX10.out.lt)
                    have HP11 := Lib.hid (HP10.out.below hb11 HP10.out.lt)
                    have HU11 := Lib.hid (HU10.out.now hb11)
                    have hH11 : (fun W => (Buls W W.heap.size lA ln l) ∧ Blk W w0.heap.size 31 #[.int .i64 ver, .int .i64 fr, .int .i64 ti, .int .i64 lo, .int .i64 hi, .slice bA bn bc, .int .i64 lev] ∧ Blk W w1.heap.size 37 #[.int .i64 pz, .int .i64 pl, .int .i64 ph, .int .i64 pt] ∧ Below w0.heap.size w0 W ∧ Ints W W.heap.size bA bn zs ∧ W.cell? ⟨w0.heap.size, 0, none⟩ = some (.int .i64 ver) ∧ W.cell? ⟨w0.heap.size, 1, none⟩ = some (.int .i64 fr) ∧ W.cell? ⟨w0.heap.size, 2, none⟩ = some (.int .i64 ti) ∧ W.cell? ⟨w0.heap.size, 3, none⟩ = some (.int .i64 lo) ∧ W.cell? ⟨w0.heap.size, 4, none⟩ = some (.int .i64 hi) ∧ W.cell? ⟨w0.heap.size, 5, none⟩ = some (.slice bA bn bc) ∧ W.cell? ⟨w0.heap.size, 6, none⟩ = some (.int .i64 lev) ∧ W.cell? ⟨w1.heap.size, 0, none⟩ = some (.int .i64 pz) ∧ W.cell? ⟨w1.heap.size, 1, none⟩ = some (.int .i64 pl) ∧ W.cell? ⟨w1.heap.size, 2, none⟩ = some (.int .i64 ph) ∧ W.cell? ⟨w1.heap.size, 3, none⟩ = some (.int .i64 pt) ∧ Buls W W.heap.size xA (ln + 1) x) w11 := ⟨HR11.out, HX11.out, HP11.out, HB11.out, HZ11.out, HX11.out.cell 0, HX11.out.cell 1, HX11.out.cell 2, HX11.out.cell 3, HX11.out.cell 4, HX11.out.cell 5, HX11.out.cell 6, HP11.out.cell 0, HP11.out.cell 1, HP11.out.cell 2, HP11.out.cell 3, HU11.out⟩
                    refine ⟨_, rfl, hH11, ?_⟩
                    clear hb11
                    try simp only [Act.put, List.setIfInBounds_toArray, List.set_cons_zero, List.set_cons_succ]
                    refine held_run 33 (some 141) (.binOp .eql 3 (.tmp 140) (.const (.int .i64 0)) 3) ?v17_10_33 (by rfl) (by kernel_rfl) (by kernel_rfl) (by kernel_rfl) (fun _ _ _ h => h) (fun o ho w hS => ?y17_10_33) (by assumption) ?r17_10_33
                    case y17_10_33 => (try dsimp only at hS); unfold execOp; simp only [ho]; go_simp; try with_reducible rfl
                    try simp only [Act.put, List.setIfInBounds_toArray, List.set_cons_zero, List.set_cons_succ]
                    refine held_run 34 (some 142) (.pick (.tmp 137) (.tmp 141) (.const (Value.bool false))) ?v17_10_34 (by rfl) (by kernel_rfl) (by kernel_rfl) (by kernel_rfl) (fun _ _ _ h => h) (fun o ho w hS => ?y17_10_34) (by assumption) ?r17_10_34
                    case y17_10_34 => (try dsimp only at hS); unfold execOp; simp only [ho]; go_simp; try with_reducible rfl
                    try simp only [Act.put, List.setIfInBounds_toArray, List.set_cons_zero, List.set_cons_succ]
                    refine held_run 35 (some 143) (.pick (.tmp 134) (.const (Value.bool true)) (.tmp 142)) ?v17_10_35 (by rfl) (by kernel_rfl) (by kernel_rfl) (by kernel_rfl) (fun _ _ _ h => h) (fun o ho w hS => ?y17_10_35) (by assumption) ?r17_10_35
                    case y17_10_35 => (try dsimp only at hS); unfold execOp; simp only [ho]; go_simp; try with_reducible rfl
                    try simp only [Act.put, List.setIfInBounds_toArray, List.set_cons_zero, List.set_cons_succ]
                    refine held_run 36 (some 144) (.pick (.tmp 124) (.tmp 143) (.const (Value.bool false))) ?v17_10_36 (by rfl) (by kernel_rfl) (by kernel_rfl) (by kernel_rfl) (fun _ _ _ h => h) (fun o ho w hS => ?y17_10_36) (by assumption) ?r17_10_36
                    case y17_10_36 => (try dsimp only at hS); unfold execOp; simp only [ho]; go_simp; try with_reducible rfl
                    try simp only [Act.put, List.setIfInBounds_toArray, List.set_cons_zero, List.set_cons_succ]
                    refine held_run 37 (some 6) (.assign (.tmp 144)) ?v17_10_37 (by rfl) (by kernel_rfl) (by kernel_rfl) (by kernel_rfl) (fun _ _ _ h => h) (fun o ho w hS => ?y17_10_37) (by assumption) ?r17_10_37
                    case y17_10_37 => (try dsimp only at hS); unfold execOp; simp only [ho]; go_simp; try with_reducible rfl
                    try simp only [Act.put, List.setIfInBounds_toArray, List.set_cons_zero, List.set_cons_succ]
                    refine wpAnyH_done (by kernel_rfl) ?_ _
                    go_wp2_with fail
                    go_ret
                    exact ⟨rfl, HB11.out⟩
                · skip
                  go_wp2_with fail
                  have HC2 : Hid (levN x pz pl ph pt = 0) := by
                    show _ = _
                    rw [HL0.out]
                    exact if_neg (fun h => by simp at h <;> omega)
                  have HX8d := Lib.hid HX8.out.drew
                  have HP8d := Lib.hid HP8.out.drew
                  have HB8d := Lib.hid HB8.out.drew
                  have HZ8d : Hid (Ints w8.drew w8.drew.heap.size _ _ zs) := hide HZ8.out
                  have HR8d : Hid (Buls w8.drew w8.drew.heap.size _ _ l) := hide HR8.out
                  have HU8d : Hid (Buls w8.drew w8.drew.heap.size xA _ x) := hide HU8.out
                  have e1 : (ver == ver) = true := beq_self_eq_true ver
                  have e2 : (lev == lev) = true := beq_self_eq_true lev
                  refine wp_region_held_drew (S := fun W => (Buls W W.heap.size lA ln l) ∧ Blk W w0.heap.size 31 #[.int .i64 ver, .int .i64 fr, .int .i64 ti, .int .i64 lo, .int .i64 hi, .slice bA bn bc, .int .i64 lev] ∧ Blk W w1.heap.size 37 #[.int .i64 pz, .int .i64 pl, .int .i64 ph, .int .i64 pt] ∧ Below w0.heap.size w0 W ∧ Ints W W.heap.size bA bn zs ∧ W.cell? ⟨w0.heap.size, 0, none⟩ = some (.int .i64 ver) ∧ W.cell? ⟨w0.heap.size, 1, none⟩ = some (.int .i64 fr) ∧ W.cell? ⟨w0.heap.size, 2, none⟩ = some (.int .i64 ti) ∧ W.cell? ⟨w0.heap.size, 3, none⟩ = some (.int .i64 lo) ∧ W.cell? ⟨w0.heap.size, 4, none⟩ = some (.int .i64 hi) ∧ W.cell? ⟨w0.heap.size, 5, none⟩ = some (.slice bA bn bc) ∧ W.cell? ⟨w0.heap.size, 6, none⟩ = some (.int .i64 lev) ∧ W.cell? ⟨w1.heap.size, 0, none⟩ = some (.int .i64 pz) ∧ W.cell? ⟨w1.heap.size, 1, none⟩ = some (.int .i64 pl) ∧ W.cell? ⟨w1.heap.size, 2, none⟩ = some (.int .i64 ph) ∧ W.cell? ⟨w1.heap.size, 3, none⟩ = some (.int .i64 pt) ∧ Buls W W.heap.size xA (ln + 1) x) (by kernel_rfl) (⟨HR8d.out, HX8d.out, HP8d.out, HB8d.out, HZ8d.out, HX8d.out.cell 0, HX8d.out.cell 1, HX8d.out.cell 2, HX8d.out.cell 3, HX8d.out.cell 4, HX8d.out.cell 5, HX8d.out.cell 6, HP8d.out.cell 0, HP8d.out.cell 1, HP8d.out.cell 2, HP8d.out.cell 3, HU8d.out⟩) (fun hHeld => ?_)
                  refine held_run 0 (some 108) (.move (.tmp 7)) ?v17_11_0 (by rfl) (by kernel_rfl) (by kernel_rfl) (by kernel_rfl) (fun _ _ _ h => h) (fun o ho w hS => ?y17_11_0) (by assumption) ?r17_11_0
                  case y17_11_0 => (try dsimp only at hS); unfold execOp; simp only [ho]; go_simp; try with_reducible rfl
                  try simp only [Act.put, List.setIfInBounds_toArray, List.set_cons_zero, List.set_cons_succ]
                  refine held_run 1 (some 109) (.fieldAddr 37 (.tmp 5) 3) ?v17_11_1 (by rfl) (by kernel_rfl) (by kernel_rfl) (by kernel_rfl) (fun _ _ _ h => h) (fun o ho w hS => ?y17_11_1) (by assumption) ?r17_11_1
                  case y17_11_1 => (try dsimp only at hS); unfold execOp; simp only [ho]; go_simp; try with_reducible rfl
                  try simp only [Act.put, List.setIfInBounds_toArray, List.set_cons_zero, List.set_cons_succ]
                  refine held_run 2 (some 110) (.load 3 (.tmp 109)) ?v17_11_2 (by rfl) (by kernel_rfl) (by kernel_rfl) (by kernel_rfl) (fun _ _ _ h => h) (fun o ho w hS => ?y17_11_2) (by assumption) ?r17_11_2
                  case y17_11_2 => (try dsimp only at hS); unfold execOp; simp only [ho]; go_simp; try with_reducible rfl
                  try simp only [Act.put, List.setIfInBounds_toArray, List.set_cons_zero, List.set_cons_succ]
                  refine held_run 4 (some 112) (.fieldAddr 31 (.tmp 4) 0) ?v17_11_4 (by rfl) (by kernel_rfl) (by kernel_rfl) (by kernel_rfl) (fun _ _ _ h => h) (fun o ho w hS => ?y17_11_4) (by assumption) ?r17_11_4
                  case y17_11_4 => (try dsimp only at hS); unfold execOp; simp only [ho]; go_simp; try with_reducible rfl
                  try simp only [Act.put, List.setIfInBounds_toArray, List.set_cons_zero, List.set_cons_succ]
                  refine held_run 5 (some 113) (.load 3 (.tmp 112)) ?v17_11_5 (by rfl) (by kernel_rfl) (by kernel_rfl) (by kernel_rfl) (fun _ _ _ h => h) (fun o ho w hS => ?y17_11_5) (by assumption) ?r17_11_5
                  case y17_11_5 => (try dsimp only at hS); unfold execOp; simp only [ho]; go_simp; try with_reducible rfl
                  try simp only [Act.put, List.setIfInBounds_toArray, List.set_cons_zero, List.set_cons_succ]
                  refine held_call 3 (some 111) 17 [(.tmp 108), (.tmp 110)] #[22, 3] #[.slice xA (ln + 1) xc, .int .i64 pt] (by rfl) (by rfl) (by kernel_rfl) Try.func17 (by rfl) (by rfl) ?_
                  refine (HCur.out _ _ _ x _ ver HU8d.out hxm HC1.out).mono ?_
                  rintro e w9 ⟨rfl, hb9⟩
                  have HB9 := Lib.hid (HB8d.out.trans (hb9.mono HB8d.out.size))
                  have HR9 := Lib.hid (HR8d.out.now hb9)
                  have HZ9 := Lib.hid (HZ8d.out.now hb9)
                  have HX9 := Lib.hid (HX8d.out.below hb9 HX8d.out.lt)
                  have HP9 := Lib.hid (HP8d.out.below hb9 HP8d.out.lt)
                  have HU9 := Lib.hid (HU8d.out.now hb9)
                  have hH9 : (fun W => (Buls W W.heap.size lA ln l) ∧ Blk W w0.heap.size 31 #[.int .i64 ver, .int .i64 fr, .int .i64 ti, .int .i64 lo, .int .i64 hi, .slice bA bn bc, .int .i64 lev] ∧ Blk W w1.heap.size 37 #[.int .i64 pz, .int .i64 pl, .int .i64 ph, .int .i64 pt] ∧ Below w0.heap.size w0 W ∧ Ints W W.heap.size bA bn zs ∧ W.cell? ⟨w0.heap.size, 0, none⟩ = some (.int .i64 ver) ∧ W.cell? ⟨w0.heap.size, 1, none⟩ = some (.int .i64 fr) ∧ W.cell? ⟨w0.heap.size, 2, none⟩ = some (.int .i64 ti) ∧ W.cell? ⟨w0.heap.size, 3, none⟩ = some (.int .i64 lo) ∧ W.cell? ⟨w0.heap.size, 4, none⟩ = some (.int .i64 hi) ∧ W.cell? ⟨w0.heap.size, 5, none⟩ = some (.slice bA bn bc) ∧ W.cell? ⟨w0.heap.size, 6, none⟩ = some (.int .i64 lev) ∧ W.cell? ⟨w1.heap.size, 0, none⟩ = some (.int .i64 pz) ∧ W.cell? ⟨w1.heap.size, 1, none⟩ = some (.int .i64 pl) ∧ W.cell? ⟨w1.heap.size, 2, none⟩ = some (.int .i64 ph) ∧ W.cell? ⟨w1.heap.size, 3, none⟩ = some (.int .i64 pt) ∧ Buls W W.heap.size xA (ln + 1) x) w9 := ⟨HR9.out, HX9.out, HP9.out, HB9.out, HZ9.out, HX9.out.cell 0, HX9.out.cell 1, HX9.out.cell 2, HX9.out.cell 3, HX9.out.cell 4, HX9.out.cell 5, HX9.out.cell 6, HP9.out.cell 0, HP9.out.cell 1, HP9.out.cell 2, HP9.out.cell 3, HU9.out⟩
                  refine ⟨_, rfl, hH9, ?_⟩
                  clear hb9
                  try simp only [Act.put, List.setIfInBounds_toArray, List.set_cons_zero, List.set_cons_succ]
                  refine held_run 6 (some 114) (.binOp .eql 3 (.tmp 111) (.tmp 113) 3) ?v17_11_6 (by rfl) (by kernel_rfl) (by kernel_rfl) (by kernel_rfl) (fun _ _ _ h => h) (fun o ho w hS => ?y17_11_6) (by assumption) ?r17_11_6
                  case y17_11_6 => (try dsimp only at hS); unfold execOp; simp only [ho]; go_simp; try with_reducible rfl
                  try simp only [Act.put, List.setIfInBounds_toArray, List.set_cons_zero, List.set_cons_succ]
                  refine held_run 7 (some 115) (.move (.tmp 114)) ?v17_11_7 (by rfl) (by kernel_rfl) (by kernel_rfl) (by kernel_rfl) (fun _ _ _ h => h) (fun o ho w hS => ?y17_11_7) (by assumption) ?r17_11_7
                  case y17_11_7 => (try dsimp only at hS); unfold execOp; simp only [ho]; go_simp; try with_reducible rfl
                  try simp only [Act.put, List.setIfInBounds_toArray, List.set_cons_zero, List.set_cons_succ]
                  refine held_run 8 (some 116) (.move (.tmp 7)) ?v17_11_8 (by rfl) (by kernel_rfl) (by kernel_rfl) (by kernel_rfl) (fun _ _ _ h => h) (fun o ho w hS => ?y17_11_8) (by assumption) ?r17_11_8
                  case y17_11_8 => (try dsimp only at hS); unfold execOp; simp only [ho]; go_simp; try with_reducible rfl
                  try simp only [Act.put, List.setIfInBounds_toArray, List.set_cons_zero, List.set_cons_succ]
                  refine held_run 9 (some 117) (.fieldAddr 37 (.tmp 5) 3) ?v17_11_9 (by rfl) (by kernel_rfl) (by kernel_rfl) (by kernel_rfl) (fun _ _ _ h => h) (fun o ho w hS => ?y17_11_9) (by assumption) ?r17_11_9
                  case y17_11_9 => (try dsimp only at hS); unfold execOp; simp only [ho]; go_simp; try with_reducible rfl
                  try simp only [Act.put, List.setIfInBounds_toArray, List.set_cons_zero, List.set_cons_succ]
                  refine held_run 10 (some 118) (.load 3 (.tmp 117)) ?v17_11_10 (by rfl) (by kernel_rfl) (by kernel_rfl) (by kernel_rfl) (fun _ _ _ h => h) (fun o ho w hS => ?y17_11_10) (by assumption) ?r17_11_10
                  case y17_11_10 => (try dsimp only at hS); unfold execOp; simp only [ho]; go_simp; try with_reducible rfl
                  try simp only [Act.put, List.setIfInBounds_toArray, List.set_cons_zero, List.set_cons_succ]
                  refine held_run 12 (some 120) (.fieldAddr 31 (.tmp 4) 5) ?v17_11_12 (by rfl) (by kernel_rfl) (by kernel_rfl) (by kernel_rfl) (fun _ _ _ h => h) (fun o ho w hS => ?y17_11_12) (by assumption) ?r17_11_12
                  case y17_11_12 => (try dsimp only at hS); unfold execOp; simp only [ho]; go_simp; try with_reducible rfl
                  try simp only [Act.put, List.setIfInBounds_toArray, List.set_cons_zero, List.set_cons_succ]
                  refine held_run 13 (some 121) (.load 3 (.tmp 120)) ?v17_11_13 (by rfl) (by kernel_rfl) (by kernel_rfl) (by kernel_rfl) (fun _ _ _ h => h) (fun o ho w hS => ?y17_11_13) (by assumption) ?r17_11_13
                  case y17_11_13 => (try dsimp only at hS); unfold execOp; simp only [ho]; go_simp; try with_reducible rfl
                  try simp only [Act.put, List.setIfInBounds_toArray, List.set_cons_zero, List.set_cons_succ]
                  refine held_call 11 (some 119) 21 [(.tmp 116), (.tmp 118)] #[22, 3] #[.slice xA (ln + 1) xc, .int .i64 pt] (by rfl) (by rfl) (by kernel_rfl) Try.func21 (by rfl) (by rfl) ?_
                  refine (HWor.out _ _ _ x _ lev HU9.out hxm HC3.out).mono ?_
                  rintro e w10 ⟨rfl, hb10⟩
                  have HB10 := Lib.hid (HB9.out.trans (hb10.mono HB9.out.size))
                  have HR10 := Lib.hid (HR9.out.now hb10)
                  have HZ10 := Lib.hid (HZ9.out.now hb10)
                  have HX10 := Lib.hid (HX9.out.below hb10 HX9.out.lt)
                  have HP10 := Lib.hid (HP9.out.below hb10 HP9.out.lt)
                  have HU10 := Lib.hid (HU9.out.now hb10)
                  have hH10 : (fun W => (Buls W W.heap.size lA ln l) ∧ Blk W w0.heap.size 31 #[.int .i64 ver, .int .i64 fr, .int .i64 ti, .int .i64 lo, .int .i64 hi, .slice bA bn bc, .int .i64 lev] ∧ Blk W w1.heap.size 37 #[.int .i64 pz, .int .i64 pl, .int .i64 ph, .int .i64 pt] ∧ Below w0.heap.size w0 W ∧ Ints W W.heap.size bA bn zs ∧ W.cell? ⟨w0.heap.size, 0, none⟩ = some (.int .i64 ver) ∧ W.cell? ⟨w0.heap.size, 1, none⟩ = some (.int .i64 fr) ∧ W.cell? ⟨w0.heap.size, 2, none⟩ = some (.int .i64 ti) ∧ W.cell? ⟨w0.heap.size, 3, none⟩ = some (.int .i64 lo) ∧ W.cell? ⟨w0.heap.size, 4, none⟩ = some (.int .i64 hi) ∧ W.cell? ⟨w0.heap.size, 5, none⟩ = some (.slice bA bn bc) ∧ W.cell? ⟨w0.heap.size, 6, none⟩ = some (.int .i64 lev) ∧ W.cell? ⟨w1.heap.size, 0, none⟩ = some (.int .i64 pz) ∧ W.cell? ⟨w1.heap.size, 1, none⟩ = some (.int .i64 pl) ∧ W.cell? ⟨w1.heap.size, 2, none⟩ = some (.int .i64 ph) ∧ W.cell? ⟨w1.heap.size, 3, none⟩ = some (.int .i64 pt) ∧ Buls W W.heap.size xA (ln + 1) x) w10 := ⟨HR10.out, HX10.out, HP10.out, HB10.out, HZ10.out, HX10.out.cell 0, HX10.out.cell 1, HX10.out.cell 2, HX10.out.cell 3, HX10.out.cell 4, HX10.out.cell 5, HX10.out.cell 6, HP10.out.cell 0, HP10.out.cell 1, HP10.out.cell 2, HP10.out.cell 3, HU10.out⟩
                  refine ⟨_, rfl, hH10, ?_⟩
                  clear hb10
                  try simp only [Act.put, List.setIfInBounds_toArray, List.set_cons_zero, List.set_cons_succ]
                  refine held_run 14 (some 122) (.binOp .eql 3 (.tmp 119) (.tmp 121) 3) ?v17_11_14 (by rfl) (by kernel_rfl) (by kernel_rfl) (by kernel_rfl) (fun _ _ _ h => h) (fun o ho w hS => ?y17_11_14) (by assumption) ?r17_11_14
                  case y17_11_14 => (try dsimp only at hS); unfold execOp; simp only [ho]; go_simp; try with_reducible rfl
                  try simp only [Act.put, List.setIfInBounds_toArray, List.set_cons_zero, List.set_cons_succ]
                  refine held_run 15 (some 123) (.pick (.tmp 115) (.tmp 122) (.const (Value.bool false))) ?v17_11_15 (by rfl) (by kernel_rfl) (by kernel_rfl) (by kernel_rfl) (fun _ _ _ h => h) (fun o ho w hS => ?y17_11_15) (by assumption) ?r17_11_15
                  case y17_11_15 => (try dsimp only at hS); unfold execOp; simp only [ho]; go_simp; try with_reducible rfl
                  try simp only [Act.put, List.setIfInBounds_toArray, List.set_cons_zero, List.set_cons_succ]
                  refine held_run 16 (some 124) (.move (.tmp 123)) ?v17_11_16 (by rfl) (by kernel_rfl) (by kernel_rfl) (by kernel_rfl) (fun _ _ _ h => h) (fun o ho w hS => ?y17_11_16) (by assumption) ?r17_11_16
                  case y17_11_16 => (try dsimp only at hS); unfold execOp; simp only [ho]; go_simp; try with_reducible rfl
                  try simp only [Act.put, List.setIfInBounds_toArray, List.set_cons_zero, List.set_cons_succ]
                  refine held_run 17 (some 125) (.move (.tmp 9)) ?v17_11_17 (by rfl) (by kernel_rfl) (by kernel_rfl) (by kernel_rfl) (fun _ _ _ h => h) (fun o ho w hS => ?y17_11_17) (by assumption) ?r17_11_17
                  case y17_11_17 => (try dsimp only at hS); unfold execOp; simp only [ho]; go_simp; try with_reducible rfl
                  try simp only [Act.put, List.setIfInBounds_toArray, List.set_cons_zero, List.set_cons_succ]
                  refine held_run 18 (some 126) (.move (.tmp 125)) ?v17_11_18 (by rfl) (by kernel_rfl) (by kernel_rfl) (by kernel_rfl) (fun _ _ _ h => h) (fun o ho w hS => ?y17_11_18) (by assumption) ?r17_11_18
                  case y17_11_18 => (try dsimp only at hS); unfold execOp; simp only [ho]; go_simp; try with_reducible rfl
                  try simp only [Act.put, List.setIfInBounds_toArray, List.set_cons_zero, List.set_cons_succ]
                  refine held_skip 19 (some 127) (by rfl) (by kernel_rfl) (by kernel_rfl) (by kernel_rfl) (fun _ _ _ h => h) (by assumption) ?_
                  try simp only [Act.put, List.setIfInBounds_toArray, List.set_cons_zero, List.set_cons_succ]
                  refine held_skip 20 (some 128) (by rfl) (by kernel_rfl) (by kernel_rfl) (by kernel_rfl) (fun _ _ _ h => h) (by assumption) ?_
                  try simp only [Act.put, List.setIfInBounds_toArray, List.set_cons_zero, List.set_cons_succ]
                  refine held_skip 22 (some 130) (by rfl) (by kernel_rfl) (by kernel_rfl) (by kernel_rfl) (fun _ _ _ h => h) (by assumption) ?_
                  try simp only [Act.put, List.setIfInBounds_toArray, List.set_cons_zero, List.set_cons_succ]
                  refine held_skip 23 (some 131) (by rfl) (by kernel_rfl) (by kernel_rfl) (by kernel_rfl) (fun _ _ _ h => h) (by assumption) ?_
                  try simp only [Act.put, List.setIfInBounds_toArray, List.set_cons_zero, List.set_cons_succ]
                  refine held_skip 21 (some 129) (by rfl) (by kernel_rfl) (by kernel_rfl) (by kernel_rfl) (fun _ _ _ h => h) (by assumption) ?_
                  try simp only [Act.put, List.setIfInBounds_toArray, List.set_cons_zero, List.set_cons_succ]
                  refine held_skip 24 (some 132) (by rfl) (by kernel_rfl) (by kernel_rfl) (by kernel_rfl) (fun _ _ _ h => h) (by assumption) ?_
                  try simp only [Act.put, List.setIfInBounds_toArray, List.set_cons_zero, List.set_cons_succ]
                  refine held_run 25 (some 133) (.pick (.tmp 126) (.tmp 132) (.const (Value.bool false))) ?v17_11_25 (by rfl) (by kernel_rfl) (by kernel_rfl) (by kernel_rfl) (fun _ _ _ h => h) (fun o ho w hS => ?y17_11_25) (by assumption) ?r17_11_25
                  case y17_11_25 => (try dsimp only at hS); unfold execOp; simp only [ho]; go_simp; try with_reducible rfl
                  try simp only [Act.put, List.setIfInBounds_toArray, List.set_cons_zero, List.set_cons_succ]
                  refine held_run 26 (some 134) (.move (.tmp 133)) ?v17_11_26 (by rfl) (by kernel_rfl) (by kernel_rfl) (by kernel_rfl) (fun _ _ _ h => h) (fun o ho w hS => ?y17_11_26) (by assumption) ?r17_11_26
                  case y17_11_26 => (try dsimp only at hS); unfold execOp; simp only [ho]; go_simp; try with_reducible rfl
                  try simp only [Act.put, List.setIfInBounds_toArray, List.set_cons_zero, List.set_cons_succ]
                  refine held_run 27 (some 135) (.move (.tmp 9)) ?v17_11_27 (by rfl) (by kernel_rfl) (by kernel_rfl) (by kernel_rfl) (fun _ _ _ h => h) (fun o ho w hS => ?y17_11_27) (by assumption) ?r17_11_27
                  case y17_11_27 => (try dsimp only at hS); unfold execOp; simp only [ho]; go_simp; try with_reducible rfl
                  try simp only [Act.put, List.setIfInBounds_toArray, List.set_cons_zero, List.set_cons_succ]
                  refine held_run 28 (some 136) (.unOp .not 4 (.tmp 135)) ?v17_11_28 (by rfl) (by kernel_rfl) (by kernel_rfl) (by kernel_rfl) (fun _ _ _ h => h) (fun o ho w hS => ?y17_11_28) (by assumption) ?r17_11_28
                  case y17_11_28 => (try dsimp only at hS); unfold execOp; simp only [ho]; go_simp; try with_reducible rfl
                  try simp only [Act.put, List.setIfInBounds_toArray, List.set_cons_zero, List.set_cons_succ]
                  refine held_run 29 (some 137) (.move (.tmp 136)) ?v17_11_29 (by rfl) (by kernel_rfl) (by kernel_rfl) (by kernel_rfl) (fun _ _ _ h => h) (fun o ho w hS => ?y17_11_29) (by assumption) ?r17_11_29
                  case y17_11_29 => (try dsimp only at hS); unfold execOp; simp only [ho]; go_simp; try with_reducible rfl
                  try simp only [Act.put, List.setIfInBounds_toArray, List.set_cons_zero, List.set_cons_succ]
                  refine held_run 30 (some 138) (.move (.tmp 7)) ?v17_11_30 (by rfl) (by kernel_rfl) (by kernel_rfl) (by kernel_rfl) (fun _ _ _ h => h) (fun o ho w hS => ?y17_11_30) (by assumption) ?r17_11_30
                  case y17_11_30 => (try dsimp only at hS); unfold execOp; simp only [ho]; go_simp; try with_reducible rfl
                  try simp only [Act.put, List.setIfInBounds_toArray, List.set_cons_zero, List.set_cons_succ]
                  refine held_load 31 (some 139) 37 (.tmp 5) (by rfl) (by kernel_rfl) (by kernel_rfl) (by kernel_rfl) (w1.heap.size) 37 #[.int .i64 pz, .int .i64 pl, .int .i64 ph, .int .i64 pt] (fun _ _ _ h => h) (by rfl) (fun _ h => h.2.2.1) _ Try.underlying37 rfl (by kernel_rfl) (by assumption) ?_
                  try simp only [Act.put, List.setIfInBounds_toArray, List.set_cons_zero, List.set_cons_succ]
                  refine held_call 32 (some 140) 19 [(.tmp 138), (.tmp 139)] #[22, 37] #[.slice xA (ln + 1) xc, .agg #[.int .i64 pz, .int .i64 pl, .int .i64 ph, .int .i64 pt]] (by rfl) (by rfl) (by kernel_rfl) Try.func19 (by rfl) (by rfl) ?_
                  refine (HLev.out _ _ _ x _ 0 HU10.out hxm HC2.out).mono ?_
                  rintro e w11 ⟨rfl, hb11⟩
                  have HB11 := Lib.hid (HB10.out.trans (hb11.mono HB10.out.size))
                  have HR11 := Lib.hid (HR10.out.now hb11)
                  have HZ11 := Lib.hid (HZ10.out.now hb11)
                  have HX11 := Lib.hid (HX10.out.below hb11 HX10.out.lt)
                  have HP11 := Lib.hid (HP10.out.below hb11 HP10.out.lt)
                  have HU11 := Lib.hid (HU10.out.now hb11)
                  have hH11 : (fun W => (Buls W W.heap.size lA ln l) ∧ Blk W w0.heap.size 31 #[.int .i64 ver, .int .i64 fr, .int .i64 ti, .int .i64 lo, .int .i64 hi, .slice bA bn bc, .int .i64 lev] ∧ Blk W w1.heap.size 37 #[.int .i64 pz, .int .i64 pl, .int .i64 ph, .int .i64 pt] ∧ Below w0.heap.size w0 W ∧ Ints W W.heap.size bA bn zs ∧ W.cell? ⟨w0.heap.size, 0, none⟩ = some (.int .i64 ver) ∧ W.cell? ⟨w0.heap.size, 1, none⟩ = some (.int .i64 fr) ∧ W.cell? ⟨w0.heap.size, 2, none⟩ = some (.int .i64 ti) ∧ W.cell? ⟨w0.heap.size, 3, none⟩ = some (.int .i64 lo) ∧ W.cell? ⟨w0.heap.size, 4, none⟩ = some (.int .i64 hi) ∧ W.cell? ⟨w0.heap.size, 5, none⟩ = some (.slice bA bn bc) ∧ W.cell? ⟨w0.heap.size, 6, none⟩ = some (.int .i64 lev) ∧ W.cell? ⟨w1.heap.size, 0, none⟩ = some (.int .i64 pz) ∧ W.cell? ⟨w1.heap.size, 1, none⟩ = some (.int .i64 pl) ∧ W.cell? ⟨w1.heap.size, 2, none⟩ = some (.int .i64 ph) ∧ W.cell? ⟨w1.heap.size, 3, none⟩ = some (.int .i64 pt) ∧ Buls W W.heap.size xA (ln + 1) x) w11 := ⟨HR11.out, HX11.out, HP11.out, HB11.out, HZ11.out, HX11.out.cell 0, HX11.out.cell 1, HX11.out.cell 2, HX11.out.cell 3, HX11.out.cell 4, HX11.out.cell 5, HX11.out.cell 6, HP11.out.cell 0, HP11.out.cell 1, HP11.out.cell 2, HP11.out.cell 3, HU11.out⟩
                  refine ⟨_, rfl, hH11, ?_⟩
                  clear hb11
                  try simp only [Act.put, List.setIfInBounds_toArray, List.set_cons_zero, List.set_cons_succ]
                  refine held_run 33 (some 141) (.binOp .eql 3 (.tmp 140) (.const (.int .i64 0)) 3) ?v17_11_33 (by rfl) (by kernel_rfl) (by kernel_rfl) (by kernel_rfl) (fun _ _ _ h => h) (fun o ho w hS => ?y17_11_33) (by assumption) ?r17_11_33
                  case y17_11_33 => (try dsimp only at hS); unfold execOp; simp only [ho]; go_simp; try with_reducible rfl
                  try simp only [Act.put, List.setIfInBounds_toArray, List.set_cons_zero, List.set_cons_succ]
                  refine held_run 34 (some 142) (.pick (.tmp 137) (.tmp 141) (.const (Value.bool false))) ?v17_11_34 (by rfl) (by kernel_rfl) (by kernel_rfl) (by kernel_rfl) (fun _ _ _ h => h) (fun o ho w hS => ?y17_11_34) (by assumption) ?r17_11_34
                  case y17_11_34 => (try dsimp only at hS); unfold execOp; simp only [ho]; go_simp; try with_reducible rfl
                  try simp only [Act.put, List.setIfInBounds_toArray, List.set_cons_zero, List.set_cons_succ]
                  refine held_run 35 (some 143) (.pick (.tmp 134) (.const (Value.bool true)) (.tmp 142)) ?v17_11_35 (by rfl) (by kernel_rfl) (by kernel_rfl) (by kernel_rfl) (fun _ _ _ h => h) (fun o ho w hS => ?y17_11_35) (by assumption) ?r17_11_35
                  case y17_11_35 => (try dsimp only at hS); unfold execOp; simp only [ho]; go_simp; try with_reducible rfl
                  try simp only [Act.put, List.setIfInBounds_toArray, List.set_cons_zero, List.set_cons_succ]
                  refine held_run 36 (some 144) (.pick (.tmp 124) (.tmp 143) (.const (Value.bool false))) ?v17_11_36 (by rfl) (by kernel_rfl) (by kernel_rfl) (by kernel_rfl) (fun _ _ _ h => h) (fun o ho w hS => ?y17_11_36) (by assumption) ?r17_11_36
                  case y17_11_36 => (try dsimp only at hS); unfold execOp; simp only [ho]; go_simp; try with_reducible rfl
                  try simp only [Act.put, List.setIfInBounds_toArray, List.set_cons_zero, List.set_cons_succ]
                  refine held_run 37 (some 6) (.assign (.tmp 144)) ?v17_11_37 (by rfl) (by kernel_rfl) (by kernel_rfl) (by kernel_rfl) (fun _ _ _ h => h) (fun o ho w hS => ?y17_11_37) (by assumption) ?r17_11_37
                  case y17_11_37 => (try dsimp only at hS); unfold execOp; simp only [ho]; go_simp; try with_reducible rfl
                  try simp only [Act.put, List.setIfInBounds_toArray, List.set_cons_zero, List.set_cons_succ]
                  refine wpAnyH_done (by kernel_rfl) ?_ _
                  go_wp2_with fail
                  go_ret
                  exact ⟨rfl, HB11.out⟩
        · skip
          have hh : hasB ⟨ver, fr, ti, lo, hi, lev, zs⟩ pt = false := by unfold hasB; simp only [Bool.and_eq_false_iff, decide_eq_false_iff_not]; omega
          have HC1 : Hid (curN x pt = curN l pt) := by show _ = _; rw [← HXe.out]; exact cur_out hh
          have HC2 : Hid (levN x pz pl ph pt = levN l pz pl ph pt) := by show _ = _; rw [← HXe.out]; exact lev_out hh _ _ _
          have HC3 : Hid (worN x pt = worN l pt) := by show _ = _; rw [← HXe.out]; exact wor_out hh
          obtain ⟨v1, hv1⟩ : ∃ v, curN l pt = v := ⟨_, rfl⟩
          obtain ⟨v2, hv2⟩ : ∃ v, levN l pz pl ph pt = v := ⟨_, rfl⟩
          obtain ⟨v3, hv3⟩ : ∃ v, worN l pt = v := ⟨_, rfl⟩
          have HV1 := Lib.hid hv1
          have HV2 := Lib.hid hv2
          have HV3 := Lib.hid hv3
          clear hv1 hv2 hv3
          go_wp2_with fail
          have HX6d := Lib.hid HX6.out.drew
          have HP6d := Lib.hid HP6.out.drew
          have HB6d := Lib.hid HB6.out.drew
          have HZ6d : Hid (Ints w6.drew w6.drew.heap.size _ _ zs) := hide HZ6.out
          have HR6d : Hid (Buls w6.drew w6.drew.heap.size _ _ l) := hide HR6.out
          have HU6d : Hid (Buls w6.drew w6.drew.heap.size xA _ x) := hide HU6.out
          have e1 : (v1 == v1) = true := beq_self_eq_true v1
          have e2 : (v2 == v2) = true := beq_self_eq_true v2
          have e3 : (v3 == v3) = true := beq_self_eq_true v3
          refine wp_region_held_drew (S := fun W => (Buls W W.heap.size lA ln l) ∧ Blk W w0.heap.size 31 #[.int .i64 ver, .int .i64 fr, .int .i64 ti, .int .i64 lo, .int .i64 hi, .slice bA bn bc, .int .i64 lev] ∧ Blk W w1.heap.size 37 #[.int .i64 pz, .int .i64 pl, .int .i64 ph, .int .i64 pt] ∧ Below w0.heap.size w0 W ∧ Ints W W.heap.size bA bn zs ∧ W.cell? ⟨w0.heap.size, 0, none⟩ = some (.int .i64 ver) ∧ W.cell? ⟨w0.heap.size, 1, none⟩ = some (.int .i64 fr) ∧ W.cell? ⟨w0.heap.size, 2, none⟩ = some (.int .i64 ti) ∧ W.cell? ⟨w0.heap.size, 3, none⟩ = some (.int .i64 lo) ∧ W.cell? ⟨w0.heap.size, 4, none⟩ = some (.int .i64 hi) ∧ W.cell? ⟨w0.heap.size, 5, none⟩ = some (.slice bA bn bc) ∧ W.cell? ⟨w0.heap.size, 6, none⟩ = some (.int .i64 lev) ∧ W.cell? ⟨w1.heap.size, 0, none⟩ = some (.int .i64 pz) ∧ W.cell? ⟨w1.heap.size, 1, none⟩ = some (.int .i64 pl) ∧ W.cell? ⟨w1.heap.size, 2, none⟩ = some (.int .i64 ph) ∧ W.cell? ⟨w1.heap.size, 3, none⟩ = some (.int .i64 pt) ∧ Buls W W.heap.size xA (ln + 1) x) (by kernel_rfl) (⟨HR6d.out, HX6d.out, HP6d.out, HB6d.out, HZ6d.out, HX6d.out.cell 0, HX6d.out.cell 1, HX6d.out.cell 2, HX6d.out.cell 3, HX6d.out.cell 4, HX6d.out.cell 5, HX6d.out.cell 6, HP6d.out.cell 0, HP6d.out.cell 1, HP6d.out.cell 2, HP6d.out.cell 3, HU6d.out⟩) (fun hHeld => ?_)
          refine held_run 0 (some 145) (.move (.tmp 7)) ?v18_12_0 (by rfl) (by kernel_rfl) (by kernel_rfl) (by kernel_rfl) (fun _ _ _ h => h) (fun o ho w hS => ?y18_12_0) (by assumption) ?r18_12_0
          case y18_12_0 => (try dsimp only at hS); unfold execOp; simp only [ho]; go_simp; try with_reducible rfl
          try simp only [Act.put, List.setIfInBounds_toArray, List.set_cons_zero, List.set_cons_succ]
          refine held_run 1 (some 146) (.fieldAddr 37 (.tmp 5) 3) ?v18_12_1 (by rfl) (by kernel_rfl) (by kernel_rfl) (by kernel_rfl) (fun _ _ _ h => h) (fun o ho w hS => ?y18_12_1) (by assumption) ?r18_12_1
          case y18_12_1 => (try dsimp only at hS); unfold execOp; simp only [ho]; go_simp; try with_reducible rfl
          try simp only [Act.put, List.setIfInBounds_toArray, List.set_cons_zero, List.set_cons_succ]
          refine held_run 2 (some 147) (.load 3 (.tmp 146)) ?v18_12_2 (by rfl) (by kernel_rfl) (by kernel_rfl) (by kernel_rfl) (fun _ _ _ h => h) (fun o ho w hS => ?y18_12_2) (by assumption) ?r18_12_2
          case y18_12_2 => (try dsimp only at hS); unfold execOp; simp only [ho]; go_simp; try with_reducible rfl
          try simp only [Act.put, List.setIfInBounds_toArray, List.set_cons_zero, List.set_cons_succ]
          refine held_run 4 (some 149) (.move (.tmp 0)) ?v18_12_4 (by rfl) (by kernel_rfl) (by kernel_rfl) (by kernel_rfl) (fun _ _ _ h => h) (fun o ho w hS => ?y18_12_4) (by assumption) ?r18_12_4
          case y18_12_4 => (try dsimp only at hS); unfold execOp; simp only [ho]; go_simp; try with_reducible rfl
          try simp only [Act.put, List.setIfInBounds_toArray, List.set_cons_zero, List.set_cons_succ]
          refine held_run 5 (some 150) (.fieldAddr 37 (.tmp 5) 3) ?v18_12_5 (by rfl) (by kernel_rfl) (by kernel_rfl) (by kernel_rfl) (fun _ _ _ h => h) (fun o ho w hS => ?y18_12_5) (by assumption) ?r18_12_5
          case y18_12_5 => (try dsimp only at hS); unfold execOp; simp only [ho]; go_simp; try with_reducible rfl
          try simp only [Act.put, List.setIfInBounds_toArray, List.set_cons_zero, List.set_cons_succ]
          refine held_run 6 (some 151) (.load 3 (.tmp 150)) ?v18_12_6 (by rfl) (by kernel_rfl) (by kernel_rfl) (by kernel_rfl) (fun _ _ _ h => h) (fun o ho w hS => ?y18_12_6) (by assumption) ?r18_12_6
          case y18_12_6 => (try dsimp only at hS); unfold execOp; simp only [ho]; go_simp; try with_reducible rfl
          try simp only [Act.put, List.setIfInBounds_toArray, List.set_cons_zero, List.set_cons_succ]
          refine held_call 3 (some 148) 17 [(.tmp 145), (.tmp 147)] #[22, 3] #[.slice xA (ln + 1) xc, .int .i64 pt] (by rfl) (by rfl) (by kernel_rfl) Try.func17 (by rfl) (by rfl) ?_
          refine (HCur.out _ _ _ x _ v1 HU6d.out hxm (HC1.out.trans HV1.out)).mono ?_
          rintro e w7 ⟨rfl, hb7⟩
          have HB7 := Lib.hid (HB6d.out.trans (hb7.mono HB6d.out.size))
          have HR7 := Lib.hid (HR6d.out.now hb7)
          have HZ7 := Lib.hid (HZ6d.out.now hb7)
          have HX7 := Lib.hid (HX6d.out.below hb7 HX6d.out.lt)
          have HP7 := Lib.hid (HP6d.out.below hb7 HP6d.out.lt)
          have HU7 := Lib.hid (HU6d.out.now hb7)
          have hH7 : (fun W => (Buls W W.heap.size lA ln l) ∧ Blk W w0.heap.size 31 #[.int .i64 ver, .int .i64 fr, .int .i64 ti, .int .i64 lo, .int .i64 hi, .slice bA bn bc, .int .i64 lev] ∧ Blk W w1.heap.size 37 #[.int .i64 pz, .int .i64 pl, .int .i64 ph, .int .i64 pt] ∧ Below w0.heap.size w0 W ∧ Ints W W.heap.size bA bn zs ∧ W.cell? ⟨w0.heap.size, 0, none⟩ = some (.int .i64 ver) ∧ W.cell? ⟨w0.heap.size, 1, none⟩ = some (.int .i64 fr) ∧ W.cell? ⟨w0.heap.size, 2, none⟩ = some (.int .i64 ti) ∧ W.cell? ⟨w0.heap.size, 3, none⟩ = some (.int .i64 lo) ∧ W.cell? ⟨w0.heap.size, 4, none⟩ = some (.int .i64 hi) ∧ W.cell? ⟨w0.heap.size, 5, none⟩ = some (.slice bA bn bc) ∧ W.cell? ⟨w0.heap.size, 6, none⟩ = some (.int .i64 lev) ∧ W.cell? ⟨w1.heap.size, 0, none⟩ = some (.int .i64 pz) ∧ W.cell? ⟨w1.heap.size, 1, none⟩ = some (.int .i64 pl) ∧ W.cell? ⟨w1.heap.size, 2, none⟩ = some (.int .i64 ph) ∧ W.cell? ⟨w1.heap.size, 3, none⟩ = some (.int .i64 pt) ∧ Buls W W.heap.size xA (ln + 1) x) w7 := ⟨HR7.out, HX7.out, HP7.out, HB7.out, HZ7.out, HX7.out.cell 0, HX7.out.cell 1, HX7.out.cell 2, HX7.out.cell 3, HX7.out.cell 4, HX7.out.cell 5, HX7.out.cell 6, HP7.out.cell 0, HP7.out.cell 1, HP7.out.cell 2, HP7.out.cell 3, HU7.out⟩
          refine ⟨_, rfl, hH7, ?_⟩
          clear hb7
          try simp only [Act.put, List.setIfInBounds_toArray, List.set_cons_zero, List.set_cons_succ]
          refine held_call 7 (some 152) 17 [(.tmp 149), (.tmp 151)] #[22, 3] #[.slice lA ln lc, .int .i64 pt] (by rfl) (by rfl) (by kernel_rfl) Try.func17 (by rfl) (by rfl) ?_
          refine (HCur.out _ _ _ l _ v1 HR7.out hln HV1.out).mono ?_
          rintro e w8 ⟨rfl, hb8⟩
          have HB8 := Lib.hid (HB7.out.trans (hb8.mono HB7.out.size))
          have HR8 := Lib.hid (HR7.out.now hb8)
          have HZ8 := Lib.hid (HZ7.out.now hb8)
          have HX8 := Lib.hid (HX7.out.below hb8 HX7.out.lt)
          have HP8 := Lib.hid (HP7.out.below hb8 HP7.out.lt)
          have HU8 := Lib.hid (HU7.out.now hb8)
          have hH8 : (fun W => (Buls W W.heap.size lA ln l) ∧ Blk W w0.heap.size 31 #[.int .i64 ver, .int .i64 fr, .int .i64 ti, .int .i64 lo, .int .i64 hi, .slice bA bn bc, .int .i64 lev] ∧ Blk W w1.heap.size 37 #[.int .i64 pz, .int .i64 pl, .int .i64 ph, .int .i64 pt] ∧ Below w0.heap.size w0 W ∧ Ints W W.heap.size bA bn zs ∧ W.cell? ⟨w0.heap.size, 0, none⟩ = some (.int .i64 ver) ∧ W.cell? ⟨w0.heap.size, 1, none⟩ = some (.int .i64 fr) ∧ W.cell? ⟨w0.heap.size, 2, none⟩ = some (.int .i64 ti) ∧ W.cell? ⟨w0.heap.size, 3, none⟩ = some (.int .i64 lo) ∧ W.cell? ⟨w0.heap.size, 4, none⟩ = some (.int .i64 hi) ∧ W.cell? ⟨w0.heap.size, 5, none⟩ = some (.slice bA bn bc) ∧ W.cell? ⟨w0.heap.size, 6, none⟩ = some (.int .i64 lev) ∧ W.cell? ⟨w1.heap.size, 0, none⟩ = some (.int .i64 pz) ∧ W.cell? ⟨w1.heap.size, 1, none⟩ = some (.int .i64 pl) ∧ W.cell? ⟨w1.heap.size, 2, none⟩ = some (.int .i64 ph) ∧ W.cell? ⟨w1.heap.size, 3, none⟩ = some (.int .i64 pt) ∧ Buls W W.heap.size xA (ln + 1) x) w8 := ⟨HR8.out, HX8.out, HP8.out, HB8.out, HZ8.out, HX8.out.cell 0, HX8.out.cell 1, HX8.out.cell 2, HX8.out.cell 3, HX8.out.cell 4, HX8.out.cell 5, HX8.out.cell 6, HP8.out.cell 0, HP8.out.cell 1, HP8.out.cell 2, HP8.out.cell 3, HU8.out⟩
          refine ⟨_, rfl, hH8, ?_⟩
          clear hb8
          try simp only [Act.put, List.setIfInBounds_toArray, List.set_cons_zero, List.set_cons_succ]
          refine held_run 8 (some 153) (.binOp .eql 3 (.tmp 148) (.tmp 152) 3) ?v18_12_8 (by rfl) (by kernel_rfl) (by kernel_rfl) (by kernel_rfl) (fun _ _ _ h => h) (fun o ho w hS => ?y18_12_8) (by assumption) ?r18_12_8
          case y18_12_8 => (try dsimp only at hS); unfold execOp; simp only [ho]; go_simp; try with_reducible rfl
          try simp only [Act.put, List.setIfInBounds_toArray, List.set_cons_zero, List.set_cons_succ]
          refine held_run 9 (some 154) (.move (.tmp 153)) ?v18_12_9 (by rfl) (by kernel_rfl) (by kernel_rfl) (by kernel_rfl) (fun _ _ _ h => h) (fun o ho w hS => ?y18_12_9) (by assumption) ?r18_12_9
          case y18_12_9 => (try dsimp only at hS); unfold execOp; simp only [ho]; go_simp; try with_reducible rfl
          try simp only [Act.put, List.setIfInBounds_toArray, List.set_cons_zero, List.set_cons_succ]
          refine held_run 10 (some 155) (.move (.tmp 7)) ?v18_12_10 (by rfl) (by kernel_rfl) (by kernel_rfl) (by kernel_rfl) (fun _ _ _ h => h) (fun o ho w hS => ?y18_12_10) (by assumption) ?r18_12_10
          case y18_12_10 => (try dsimp only at hS); unfold execOp; simp only [ho]; go_simp; try with_reducible rfl
          try simp only [Act.put, List.setIfInBounds_toArray, List.set_cons_zero, List.set_cons_succ]
          refine held_load 11 (some 156) 37 (.tmp 5) (by rfl) (by kernel_rfl) (by kernel_rfl) (by kernel_rfl) (w1.heap.size) 37 #[.int .i64 pz, .int .i64 pl, .int .i64 ph, .int .i64 pt] (fun _ _ _ h => h) (by rfl) (fun _ h => h.2.2.1) _ Try.underlying37 rfl (by kernel_rfl) (by assumption) ?_
          try simp only [Act.put, List.setIfInBounds_toArray, List.set_cons_zero, List.set_cons_succ]
          refine held_run 13 (some 158) (.move (.tmp 0)) ?v18_12_13 (by rfl) (by kernel_rfl) (by kernel_rfl) (by kernel_rfl) (fun _ _ _ h => h) (fun o ho w hS => ?y18_12_13) (by assumption) ?r18_12_13
          case y18_12_13 => (try dsimp only at hS); unfold execOp; simp only [ho]; go_simp; try with_reducible rfl
          try simp only [Act.put, List.setIfInBounds_toArray, List.set_cons_zero, List.set_cons_succ]
          refine held_load 14 (some 159) 37 (.tmp 5) (by rfl) (by kernel_rfl) (by kernel_rfl) (by kernel_rfl) (w1.heap.size) 37 #[.int .i64 pz, .int .i64 pl, .int .i64 ph, .int .i64 pt] (fun _ _ _ h => h) (by rfl) (fun _ h => h.2.2.1) _ Try.underlying37 rfl (by kernel_rfl) (by assumption) ?_
          try simp only [Act.put, List.setIfInBounds_toArray, List.set_cons_zero, List.set_cons_succ]
          refine held_call 12 (some 157) 19 [(.tmp 155), (.tmp 156)] #[22, 37] #[.slice xA (ln + 1) xc, .agg #[.int .i64 pz, .int .i64 pl, .int .i64 ph, .int .i64 pt]] (by rfl) (by rfl) (by kernel_rfl) Try.func19 (by rfl) (by rfl) ?_
          refine (HLev.out _ _ _ x _ v2 HU8.out hxm (HC2.out.trans HV2.out)).mono ?_
          rintro e w9 ⟨rfl, hb9⟩
          have HB9 := Lib.hid (HB8.out.trans (hb9.mono HB8.out.size))
          have HR9 := Lib.hid (HR8.out.now hb9)
          have HZ9 := Lib.hid (HZ8.out.now hb9)
          have HX9 := Lib.hid (HX8.out.below hb9 HX8.out.lt)
          have HP9 := Lib.hid (HP8.out.below hb9 HP8.out.lt)
          have HU9 := Lib.hid (HU8.out.now hb9)
          have hH9 : (fun W => (Buls W W.heap.size lA ln l) ∧ Blk W w0.heap.size 31 #[.int .i64 ver, .int .i64 fr, .int .i64 ti, .int .i64 lo, .int .i64 hi, .slice bA bn bc, .int .i64 lev] ∧ Blk W w1.heap.size 37 #[.int .i64 pz, .int .i64 pl, .int .i64 ph, .int .i64 pt] ∧ Below w0.heap.size w0 W ∧ Ints W W.heap.size bA bn zs ∧ W.cell? ⟨w0.heap.size, 0, none⟩ = some (.int .i64 ver) ∧ W.cell? ⟨w0.heap.size, 1, none⟩ = some (.int .i64 fr) ∧ W.cell? ⟨w0.heap.size, 2, none⟩ = some (.int .i64 ti) ∧ W.cell? ⟨w0.heap.size, 3, none⟩ = some (.int .i64 lo) ∧ W.cell? ⟨w0.heap.size, 4, none⟩ = some (.int .i64 hi) ∧ W.cell? ⟨w0.heap.size, 5, none⟩ = some (.slice bA bn bc) ∧ W.cell? ⟨w0.heap.size, 6, none⟩ = some (.int .i64 lev) ∧ W.cell? ⟨w1.heap.size, 0, none⟩ = some (.int .i64 pz) ∧ W.cell? ⟨w1.heap.size, 1, none⟩ = some (.int .i64 pl) ∧ W.cell? ⟨w1.heap.size, 2, none⟩ = some (.int .i64 ph) ∧ W.cell? ⟨w1.heap.size, 3, none⟩ = some (.int .i64 pt) ∧ Buls W W.heap.size xA (ln + 1) x) w9 := ⟨HR9.out, HX9.out, HP9.out, HB9.out, HZ9.out, HX9.out.cell 0, HX9.out.cell 1, HX9.out.cell 2, HX9.out.cell 3, HX9.out.cell 4, HX9.out.cell 5, HX9.out.cell 6, HP9.out.cell 0, HP9.out.cell 1, HP9.out.cell 2, HP9.out.cell 3, HU9.out⟩
          refine ⟨_, rfl, hH9, ?_⟩
          clear hb9
          try simp only [Act.put, List.setIfInBounds_toArray, List.set_cons_zero, List.set_cons_succ]
          refine held_call 15 (some 160) 19 [(.tmp 158), (.tmp 159)] #[22, 37] #[.slice lA ln lc, .agg #[.int .i64 pz, .int .i64 pl, .int .i64 ph, .int .i64 pt]] (by rfl) (by rfl) (by kernel_rfl) Try.func19 (by rfl) (by rfl) ?_
          refine (HLev.out _ _ _ l _ v2 HR9.out hln HV2.out).mono ?_
          rintro e w10 ⟨rfl, hb10⟩
          have HB10 := Lib.hid (HB9.out.trans (hb10.mono HB9.out.size))
          have HR10 := Lib.hid (HR9.out.now hb10)
          have HZ10 := Lib.hid (HZ9.out.now hb10)
          have HX10 := Lib.hid (HX9.out.below hb10 HX9.out.lt)
          have HP10 := Lib.hid (HP9.out.below hb10 HP9.out.lt)
          have HU10 := Lib.hid (HU9.out.now hb10)
          have hH10 : (fun W => (Buls W W.heap.size lA ln l) ∧ Blk W w0.heap.size 31 #[.int .i64 ver, .int .i64 fr, .int .i64 ti, .int .i64 lo, .int .i64 hi, .slice bA bn bc, .int .i64 lev] ∧ Blk W w1.heap.size 37 #[.int .i64 pz, .int .i64 pl, .int .i64 ph, .int .i64 pt] ∧ Below w0.heap.size w0 W ∧ Ints W W.heap.size bA bn zs ∧ W.cell? ⟨w0.heap.size, 0, none⟩ = some (.int .i64 ver) ∧ W.cell? ⟨w0.heap.size, 1, none⟩ = some (.int .i64 fr) ∧ W.cell? ⟨w0.heap.size, 2, none⟩ = some (.int .i64 ti) ∧ W.cell? ⟨w0.heap.size, 3, none⟩ = some (.int .i64 lo) ∧ W.cell? ⟨w0.heap.size, 4, none⟩ = some (.int .i64 hi) ∧ W.cell? ⟨w0.heap.size, 5, none⟩ = some (.slice bA bn bc) ∧ W.cell? ⟨w0.heap.size, 6, none⟩ = some (.int .i64 lev) ∧ W.cell? ⟨w1.heap.size, 0, none⟩ = some (.int .i64 pz) ∧ W.cell? ⟨w1.heap.size, 1, none⟩ = some (.int .i64 pl) ∧ W.cell? ⟨w1.heap.size, 2, none⟩ = some (.int .i64 ph) ∧ W.cell? ⟨w1.heap.size, 3, none⟩ = some (.int .i64 pt) ∧ Buls W W.heap.size xA (ln + 1) x) w10 := ⟨HR10.out, HX10.out, HP10.out, HB10.out, HZ10.out, HX10.out.cell 0, HX10.out.cell 1, HX10.out.cell 2, HX10.out.cell 3, HX10.out.cell 4, HX10.out.cell 5, HX10.out.cell 6, HP10.out.cell 0, HP10.out.cell 1, HP10.out.cell 2, HP10.out.cell 3, HU10.out⟩
          refine ⟨_, rfl, hH10, ?_⟩
          clear hb10
          try simp only [Act.put, List.setIfInBounds_toArray, List.set_cons_zero, List.set_cons_succ]
          refine held_run 16 (some 161) (.binOp .eql 3 (.tmp 157) (.tmp 160) 3) ?v18_12_16 (by rfl) (by kernel_rfl) (by kernel_rfl) (by kernel_rfl) (fun _ _ _ h => h) (fun o ho w hS => ?y18_12_16) (by assumption) ?r18_12_16
          case y18_12_16 => (try dsimp only at hS); unfold execOp; simp only [ho]; go_simp; try with_reducible rfl
          try simp only [Act.put, List.setIfInBounds_toArray, List.set_cons_zero, List.set_cons_succ]
          refine held_run 17 (some 162) (.pick (.tmp 154) (.tmp 161) (.const (Value.bool false))) ?v18_12_17 (by rfl) (by kernel_rfl) (by kernel_rfl) (by kernel_rfl) (fun _ _ _ h => h) (fun o ho w hS => ?y18_12_17) (by assumption) ?r18_12_17
          case y18_12_17 => (try dsimp only at hS); unfold execOp; simp only [ho]; go_simp; try with_reducible rfl
          try simp only [Act.put, List.setIfInBounds_toArray, List.set_cons_zero, List.set_cons_succ]
          refine held_run 18 (some 163) (.move (.tmp 162)) ?v18_12_18 (by rfl) (by kernel_rfl) (by kernel_rfl) (by kernel_rfl) (fun _ _ _ h => h) (fun o ho w hS => ?y18_12_18) (by assumption) ?r18_12_18
          case y18_12_18 => (try dsimp only at hS); unfold execOp; simp only [ho]; go_simp; try with_reducible rfl
          try simp only [Act.put, List.setIfInBounds_toArray, List.set_cons_zero, List.set_cons_succ]
          refine held_run 19 (some 164) (.move (.tmp 7)) ?v18_12_19 (by rfl) (by kernel_rfl) (by kernel_rfl) (by kernel_rfl) (fun _ _ _ h => h) (fun o ho w hS => ?y18_12_19) (by assumption) ?r18_12_19
          case y18_12_19 => (try dsimp only at hS); unfold execOp; simp only [ho]; go_simp; try with_reducible rfl
          try simp only [Act.put, List.setIfInBounds_toArray, List.set_cons_zero, List.set_cons_succ]
          refine held_run 20 (some 165) (.fieldAddr 37 (.tmp 5) 3) ?v18_12_20 (by rfl) (by kernel_rfl) (by kernel_rfl) (by kernel_rfl) (fun _ _ _ h => h) (fun o ho w hS => ?y18_12_20) (by assumption) ?r18_12_20
          case y18_12_20 => (try dsimp only at hS); unfold execOp; simp only [ho]; go_simp; try with_reducible rfl
          try simp only [Act.put, List.setIfInBounds_toArray, List.set_cons_zero, List.set_cons_succ]
          refine held_run 21 (some 166) (.load 3 (.tmp 165)) ?v18_12_21 (by rfl) (by kernel_rfl) (by kernel_rfl) (by kernel_rfl) (fun _ _ _ h => h) (fun o ho w hS => ?y18_12_21) (by assumption) ?r18_12_21
          case y18_12_21 => (try dsimp only at hS); unfold execOp; simp only [ho]; go_simp; try with_reducible rfl
          try simp only [Act.put, List.setIfInBounds_toArray, List.set_cons_zero, List.set_cons_succ]
          refine held_run 23 (some 168) (.move (.tmp 0)) ?v18_12_23 (by rfl) (by kernel_rfl) (by kernel_rfl) (by kernel_rfl) (fun _ _ _ h => h) (fun o ho w hS => ?y18_12_23) (by assumption) ?r18_12_23
          case y18_12_23 => (try dsimp only at hS); unfold execOp; simp only [ho]; go_simp; try with_reducible rfl
          try simp only [Act.put, List.setIfInBounds_toArray, List.set_cons_zero, List.set_cons_succ]
          refine held_run 24 (some 169) (.fieldAddr 37 (.tmp 5) 3) ?v18_12_24 (by rfl) (by kernel_rfl) (by kernel_rfl) (by kernel_rfl) (fun _ _ _ h => h) (fun o ho w hS => ?y18_12_24) (by assumption) ?r18_12_24
          case y18_12_24 => (try dsimp only at hS); unfold execOp; simp only [ho]; go_simp; try with_reducible rfl
          try simp only [Act.put, List.setIfInBounds_toArray, List.set_cons_zero, List.set_cons_succ]
          refine held_run 25 (some 170) (.load 3 (.tmp 169)) ?v18_12_25 (by rfl) (by kernel_rfl) (by kernel_rfl) (by kernel_rfl) (fun _ _ _ h => h) (fun o ho w hS => ?y18_12_25) (by assumption) ?r18_12_25
          case y18_12_25 => (try dsimp only at hS); unfold execOp; simp only [ho]; go_simp; try with_reducible rfl
          try simp only [Act.put, List.setIfInBounds_toArray, List.set_cons_zero, List.set_cons_succ]
          refine held_call 22 (some 167) 21 [(.tmp 164), (.tmp 166)] #[22, 3] #[.slice xA (ln + 1) xc, .int .i64 pt] (by rfl) (by rfl) (by kernel_rfl) Try.func21 (by rfl) (by rfl) ?_
          refine (HWor.out _ _ _ x _ v3 HU10.out hxm (HC3.out.trans HV3.out)).mono ?_
          rintro e w11 ⟨rfl, hb11⟩
          have HB11 := Lib.hid (HB10.out.trans (hb11.mono HB10.out.size))
          have HR11 := Lib.hid (HR10.out.now hb11)
          have HZ11 := Lib.hid (HZ10.out.now hb11)
          have HX11 := Lib.hid (HX10.out.below hb11 HX10.out.lt)
          have HP11 := Lib.hid (HP10.out.below hb11 HP10.out.lt)
          have HU11 := Lib.hid (HU10.out.now hb11)
          have hH11 : (fun W => (Buls W W.heap.size lA ln l) ∧ Blk W w0.heap.size 31 #[.int .i64 ver, .int .i64 fr, .int .i64 ti, .int .i64 lo, .int .i64 hi, .slice bA bn bc, .int .i64 lev] ∧ Blk W w1.heap.size 37 #[.int .i64 pz, .int .i64 pl, .int .i64 ph, .int .i64 pt] ∧ Below w0.heap.size w0 W ∧ Ints W W.heap.size bA bn zs ∧ W.cell? ⟨w0.heap.size, 0, none⟩ = some (.int .i64 ver) ∧ W.cell? ⟨w0.heap.size, 1, none⟩ = some (.int .i64 fr) ∧ W.cell? ⟨w0.heap.size, 2, none⟩ = some (.int .i64 ti) ∧ W.cell? ⟨w0.heap.size, 3, none⟩ = some (.int .i64 lo) ∧ W.cell? ⟨w0.heap.size, 4, none⟩ = some (.int .i64 hi) ∧ W.cell? ⟨w0.heap.size, 5, none⟩ = some (.slice bA bn bc) ∧ W.cell? ⟨w0.heap.size, 6, none⟩ = some (.int .i64 lev) ∧ W.cell? ⟨w1.heap.size, 0, none⟩ = some (.int .i64 pz) ∧ W.cell? ⟨w1.heap.size, 1, none⟩ = some (.int .i64 pl) ∧ W.cell? ⟨w1.heap.size, 2, none⟩ = some (.int .i64 ph) ∧ W.cell? ⟨w1.heap.size, 3, none⟩ = some (.int .i64 pt) ∧ Buls W W.heap.size xA (ln + 1) x) w11 := ⟨HR11.out, HX11.out, HP11.out, HB11.out, HZ11.out, HX11.out.cell 0, HX11.out.cell 1, HX11.out.cell 2, HX11.out.cell 3, HX11.out.cell 4, HX11.out.cell 5, HX11.out.cell 6, HP11.out.cell 0, HP11.out.cell 1, HP11.out.cell 2, HP11.out.cell 3, HU11.out⟩
          refine ⟨_, rfl, hH11, ?_⟩
          clear hb11
          try simp only [Act.put, List.setIfInBounds_toArray, List.set_cons_zero, List.set_cons_succ]
          refine held_call 26 (some 171) 21 [(.tmp 168), (.tmp 170)] #[22, 3] #[.slice lA ln lc, .int .i64 pt] (by rfl) (by rfl) (by kernel_rfl) Try.func21 (by rfl) (by rfl) ?_
          refine (HWor.out _ _ _ l _ v3 HR11.out hln HV3.out).mono ?_
          rintro e w12 ⟨rfl, hb12⟩
          have HB12 := Lib.hid (HB11.out.trans (hb12.mono HB11.out.size))
          have HR12 := Lib.hid (HR11.out.now hb12)
          have HZ12 := Lib.hid (HZ11.out.now hb12)
          have HX12 := Lib.hid (HX11.out.below hb12 HX11.out.lt)
          have HP12 := Lib.hid (HP11.out.below hb12 HP11.out.lt)
          have HU12 := Lib.hid (HU11.out.now hb12)
          have hH12 : (fun W => (Buls W W.heap.size lA ln l) ∧ Blk W w0.heap.size 31 #[.int .i64 ver, .int .i64 fr, .int .i64 ti, .int .i64 lo, .int .i64 hi, .slice bA bn bc, .int .i64 lev] ∧ Blk W w1.heap.size 37 #[.int .i64 pz, .int .i64 pl, .int .i64 ph, .int .i64 pt] ∧ Below w0.heap.size w0 W ∧ Ints W W.heap.size bA bn zs ∧ W.cell? ⟨w0.heap.size, 0, none⟩ = some (.int .i64 ver) ∧ W.cell? ⟨w0.heap.size, 1, none⟩ = some (.int .i64 fr) ∧ W.cell? ⟨w0.heap.size, 2, none⟩ = some (.int .i64 ti) ∧ W.cell? ⟨w0.heap.size, 3, none⟩ = some (.int .i64 lo) ∧ W.cell? ⟨w0.heap.size, 4, none⟩ = some (.int .i64 hi) ∧ W.cell? ⟨w0.heap.size, 5, none⟩ = some (.slice bA bn bc) ∧ W.cell? ⟨w0.heap.size, 6, none⟩ = some (.int .i64 lev) ∧ W.cell? ⟨w1.heap.size, 0, none⟩ = some (.int .i64 pz) ∧ W.cell? ⟨w1.heap.size, 1, none⟩ = some (.int .i64 pl) ∧ W.cell? ⟨w1.heap.size, 2, none⟩ = some (.int .i64 ph) ∧ W.cell? ⟨w1.heap.size, 3, none⟩ = some (.int .i64 pt) ∧ Buls W W.heap.size xA (ln + 1) x) w12 := ⟨HR12.out, HX12.out, HP12.out, HB12.out, HZ12.out, HX12.out.cell 0, HX12.out.cell 1, HX12.out.cell 2, HX12.out.cell 3, HX12.out.cell 4, HX12.out.cell 5, HX12.out.cell 6, HP12.out.cell 0, HP12.out.cell 1, HP12.out.cell 2, HP12.out.cell 3, HU12.out⟩
          refine ⟨_, rfl, hH12, ?_⟩
          clear hb12
          try simp only [Act.put, List.setIfInBounds_toArray, List.set_cons_zero, List.set_cons_succ]
          refine held_run 27 (some 172) (.binOp .eql 3 (.tmp 167) (.tmp 171) 3) ?v18_12_27 (by rfl) (by kernel_rfl) (by kernel_rfl) (by kernel_rfl) (fun _ _ _ h => h) (fun o ho w hS => ?y18_12_27) (by assumption) ?r18_12_27
          case y18_12_27 => (try dsimp only at hS); unfold execOp; simp only [ho]; go_simp; try with_reducible rfl
          try simp only [Act.put, List.setIfInBounds_toArray, List.set_cons_zero, List.set_cons_succ]
          refine held_run 28 (some 173) (.pick (.tmp 163) (.tmp 172) (.const (Value.bool false))) ?v18_12_28 (by rfl) (by kernel_rfl) (by kernel_rfl) (by kernel_rfl) (fun _ _ _ h => h) (fun o ho w hS => ?y18_12_28) (by assumption) ?r18_12_28
          case y18_12_28 => (try dsimp only at hS); unfold execOp; simp only [ho]; go_simp; try with_reducible rfl
          try simp only [Act.put, List.setIfInBounds_toArray, List.set_cons_zero, List.set_cons_succ]
          refine held_run 29 (some 6) (.assign (.tmp 173)) ?v18_12_29 (by rfl) (by kernel_rfl) (by kernel_rfl) (by kernel_rfl) (fun _ _ _ h => h) (fun o ho w hS => ?y18_12_29) (by assumption) ?r18_12_29
          case y18_12_29 => (try dsimp only at hS); unfold execOp; simp only [ho]; go_simp; try with_reducible rfl
          try simp only [Act.put, List.setIfInBounds_toArray, List.set_cons_zero, List.set_cons_succ]
          refine wpAnyH_done (by kernel_rfl) ?_ _
          go_wp2_with fail
          go_ret
          exact ⟨rfl, HB12.out⟩
      · skip
        have hh : hasB ⟨ver, fr, ti, lo, hi, lev, zs⟩ pt = false := by unfold hasB; simp only [Bool.and_eq_false_iff, decide_eq_false_iff_not]; omega
        have HC1 : Hid (curN x pt = curN l pt) := by show _ = _; rw [← HXe.out]; exact cur_out hh
        have HC2 : Hid (levN x pz pl ph pt = levN l pz pl ph pt) := by show _ = _; rw [← HXe.out]; exact lev_out hh _ _ _
        have HC3 : Hid (worN x pt = worN l pt) := by show _ = _; rw [← HXe.out]; exact wor_out hh
        obtain ⟨v1, hv1⟩ : ∃ v, curN l pt = v := ⟨_, rfl⟩
        obtain ⟨v2, hv2⟩ : ∃ v, levN l pz pl ph pt = v := ⟨_, rfl⟩
        obtain ⟨v3, hv3⟩ : ∃ v, worN l pt = v := ⟨_, rfl⟩
        have HV1 := Lib.hid hv1
        have HV2 := Lib.hid hv2
        have HV3 := Lib.hid hv3
        clear hv1 hv2 hv3
        go_wp2_with fail
        have HX6d := Lib.hid HX6.out.drew
        have HP6d := Lib.hid HP6.out.drew
        have HB6d := Lib.hid HB6.out.drew
        have HZ6d : Hid (Ints w6.drew w6.drew.heap.size _ _ zs) := hide HZ6.out
        have HR6d : Hid (Buls w6.drew w6.drew.heap.size _ _ l) := hide HR6.out
        have HU6d : Hid (Buls w6.drew w6.drew.heap.size xA _ x) := hide HU6.out
        have e1 : (v1 == v1) = true := beq_self_eq_true v1
        have e2 : (v2 == v2) = true := beq_self_eq_true v2
        have e3 : (v3 == v3) = true := beq_self_eq_true v3
        refine wp_region_held_drew (S := fun W => (Buls W W.heap.size lA ln l) ∧ Blk W w0.heap.size 31 #[.int .i64 ver, .int .i64 fr, .int .i64 ti, .int .i64 lo, .int .i64 hi, .slice bA bn bc, .int .i64 lev] ∧ Blk W w1.heap.size 37 #[.int .i64 pz, .int .i64 pl, .int .i64 ph, .int .i64 pt] ∧ Below w0.heap.size w0 W ∧ Ints W W.heap.size bA bn zs ∧ W.cell? ⟨w0.heap.size, 0, none⟩ = some (.int .i64 ver) ∧ W.cell? ⟨w0.heap.size, 1, none⟩ = some (.int .i64 fr) ∧ W.cell? ⟨w0.heap.size, 2, none⟩ = some (.int .i64 ti) ∧ W.cell? ⟨w0.heap.size, 3, none⟩ = some (.int .i64 lo) ∧ W.cell? ⟨w0.heap.size, 4, none⟩ = some (.int .i64 hi) ∧ W.cell? ⟨w0.heap.size, 5, none⟩ = some (.slice bA bn bc) ∧ W.cell? ⟨w0.heap.size, 6, none⟩ = some (.int .i64 lev) ∧ W.cell? ⟨w1.heap.size, 0, none⟩ = some (.int .i64 pz) ∧ W.cell? ⟨w1.heap.size, 1, none⟩ = some (.int .i64 pl) ∧ W.cell? ⟨w1.heap.size, 2, none⟩ = some (.int .i64 ph) ∧ W.cell? ⟨w1.heap.size, 3, none⟩ = some (.int .i64 pt) ∧ Buls W W.heap.size xA (ln + 1) x) (by kernel_rfl) (⟨HR6d.out, HX6d.out, HP6d.out, HB6d.out, HZ6d.out, HX6d.out.cell 0, HX6d.out.cell 1, HX6d.out.cell 2, HX6d.out.cell 3, HX6d.out.cell 4, HX6d.out.cell 5, HX6d.out.cell 6, HP6d.out.cell 0, HP6d.out.cell 1, HP6d.out.cell 2, HP6d.out.cell 3, HU6d.out⟩) (fun hHeld => ?_)
        refine held_run 0 (some 145) (.move (.tmp 7)) ?v18_13_0 (by rfl) (by kernel_rfl) (by kernel_rfl) (by kernel_rfl) (fun _ _ _ h => h) (fun o ho w hS => ?y18_13_0) (by assumption) ?r18_13_0
        case y18_13_0 => (try dsimp only at hS); unfold execOp; simp only [ho]; go_simp; try with_reducible rfl
        try simp only [Act.put, List.setIfInBounds_toArray, List.set_cons_zero, List.set_cons_succ]
        refine held_run 1 (some 146) (.fieldAddr 37 (.tmp 5) 3) ?v18_13_1 (by rfl) (by kernel_rfl) (by kernel_rfl) (by kernel_rfl) (fun _ _ _ h => h) (fun o ho w hS => ?y18_13_1) (by assumption) ?r18_13_1
        case y18_13_1 => (try dsimp only at hS); unfold execOp; simp only [ho]; go_simp; try with_reducible rfl
        try simp only [Act.put, List.setIfInBounds_toArray, List.set_cons_zero, List.set_cons_succ]
        refine held_run 2 (some 147) (.load 3 (.tmp 146)) ?v18_13_2 (by rfl) (by kernel_rfl) (by kernel_rfl) (by kernel_rfl) (fun _ _ _ h => h) (fun o ho w hS => ?y18_13_2) (by assumption) ?r18_13_2
        case y18_13_2 => (try dsimp only at hS); unfold execOp; simp only [ho]; go_simp; try with_reducible rfl
        try simp only [Act.put, List.setIfInBounds_toArray, List.set_cons_zero, List.set_cons_succ]
        refine held_run 4 (some 149) (.move (.tmp 0)) ?v18_13_4 (by rfl) (by kernel_rfl) (by kernel_rfl) (by kernel_rfl) (fun _ _ _ h => h) (fun o ho w hS => ?y18_13_4) (by assumption) ?r18_13_4
        case y18_13_4 => (try dsimp only at hS); unfold execOp; simp only [ho]; go_simp; try with_reducible rfl
        try simp only [Act.put, List.setIfInBounds_toArray, List.set_cons_zero, List.set_cons_succ]
        refine held_run 5 (some 150) (.fieldAddr 37 (.tmp 5) 3) ?v18_13_5 (by rfl) (by kernel_rfl) (by kernel_rfl) (by kernel_rfl) (fun _ _ _ h => h) (fun o ho w hS => ?y18_13_5) (by assumption) ?r18_13_5
        case y18_13_5 => (try dsimp only at hS); unfold execOp; simp only [ho]; go_simp; try with_reducible rfl
        try simp only [Act.put, List.setIfInBounds_toArray, List.set_cons_zero, List.set_cons_succ]
        refine held_run 6 (some 151) (.load 3 (.tmp 150)) ?v18_13_6 (by rfl) (by kernel_rfl) (by kernel_rfl) (by kernel_rfl) (fun _ _ _ h => h) (fun o ho w hS => ?y18_13_6) (by assumption) ?r18_13_6
        case y18_13_6 => (try dsimp only at hS); unfold execOp; simp only [ho]; go_simp; try with_reducible rfl
        try simp only [Act.put, List.setIfInBounds_toArray, List.set_cons_zero, List.set_cons_succ]
        refine held_call 3 (some 148) 17 [(.tmp 145), (.tmp 147)] #[22, 3] #[.slice xA (ln + 1) xc, .int .i64 pt] (by rfl) (by rfl) (by kernel_rfl) Try.func17 (by rfl) (by rfl) ?_
        refine (HCur.out _ _ _ x _ v1 HU6d.out hxm (HC1.out.trans HV1.out)).mono ?_
        rintro e w7 ⟨rfl, hb7⟩
        have HB7 := Lib.hid (HB6d.out.trans (hb7.mono HB6d.out.size))
        have HR7 := Lib.hid (HR6d.out.now hb7)
        have HZ7 := Lib.hid (HZ6d.out.now hb7)
        have HX7 := Lib.hid (HX6d.out.below hb7 HX6d.out.lt)
        have HP7 := Lib.hid (HP6d.out.below hb7 HP6d.out.lt)
        have HU7 := Lib.hid (HU6d.out.now hb7)
        have hH7 : (fun W => (Buls W W.heap.size lA ln l) ∧ Blk W w0.heap.size 31 #[.int .i64 ver, .int .i64 fr, .int .i64 ti, .int .i64 lo, .int .i64 hi, .slice bA bn bc, .int .i64 lev] ∧ Blk W w1.heap.size 37 #[.int .i64 pz, .int .i64 pl, .int .i64 ph, .int .i64 pt] ∧ Below w0.heap.size w0 W ∧ Ints W W.heap.size bA bn zs ∧ W.cell? ⟨w0.heap.size, 0, none⟩ = some (.int .i64 ver) ∧ W.cell? ⟨w0.heap.size, 1, none⟩ = some (.int .i64 fr) ∧ W.cell? ⟨w0.heap.size, 2, none⟩ = some (.int .i64 ti) ∧ W.cell? ⟨w0.heap.size, 3, none⟩ = some (.int .i64 lo) ∧ W.cell? ⟨w0.heap.size, 4, none⟩ = some (.int .i64 hi) ∧ W.cell? ⟨w0.heap.size, 5, none⟩ = some (.slice bA bn bc) ∧ W.cell? ⟨w0.heap.size, 6, none⟩ = some (.int .i64 lev) ∧ W.cell? ⟨w1.heap.size, 0, none⟩ = some (.int .i64 pz) ∧ W.cell? ⟨w1.heap.size, 1, none⟩ = some (.int .i64 pl) ∧ W.cell? ⟨w1.heap.size, 2, none⟩ = some (.int .i64 ph) ∧ W.cell? ⟨w1.heap.size, 3, none⟩ = some (.int .i64 pt) ∧ Buls W W.heap.size xA (ln + 1) x) w7 := ⟨HR7.out, HX7.out, HP7.out, HB7.out, HZ7.out, HX7.out.cell 0, HX7.out.cell 1, HX7.out.cell 2, HX7.out.cell 3, HX7.out.cell 4, HX7.out.cell 5, HX7.out.cell 6, HP7.out.cell 0, HP7.out.cell 1, HP7.out.cell 2, HP7.out.cell 3, HU7.out⟩
        refine ⟨_, rfl, hH7, ?_⟩
        clear hb7
        try simp only [Act.put, List.setIfInBounds_toArray, List.set_cons_zero, List.set_cons_succ]
        refine held_call 7 (some 152) 17 [(.tmp 149), (.tmp 151)] #[22, 3] #[.slice lA ln lc, .int .i64 pt] (by rfl) (by rfl) (by kernel_rfl) Try.func17 (by rfl) (by rfl) ?_
        refine (HCur.out _ _ _ l _ v1 HR7.out hln HV1.out).mono ?_
        rintro e w8 ⟨rfl, hb8⟩
        have HB8 := Lib.hid (HB7.out.trans (hb8.mono HB7.out.size))
        have HR8 := Lib.hid (HR7.out.now hb8)
        have HZ8 := Lib.hid (HZ7.out.now hb8)
        have HX8 := Lib.hid (HX7.out.below hb8 HX7.out.lt)
        have HP8 := Lib.hid (HP7.out.below hb8 HP7.out.lt)
        have HU8 := Lib.hid (HU7.out.now hb8)
        have hH8 : (fun W => (Buls W W.heap.size lA ln l) ∧ Blk W w0.heap.size 31 #[.int .i64 ver, .int .i64 fr, .int .i64 ti, .int .i64 lo, .int .i64 hi, .slice bA bn bc, .int .i64 lev] ∧ Blk W w1.heap.size 37 #[.int .i64 pz, .int .i64 pl, .int .i64 ph, .int .i64 pt] ∧ Below w0.heap.size w0 W ∧ Ints W W.heap.size bA bn zs ∧ W.cell? ⟨w0.heap.size, 0, none⟩ = some (.int .i64 ver) ∧ W.cell? ⟨w0.heap.size, 1, none⟩ = some (.int .i64 fr) ∧ W.cell? ⟨w0.heap.size, 2, none⟩ = some (.int .i64 ti) ∧ W.cell? ⟨w0.heap.size, 3, none⟩ = some (.int .i64 lo) ∧ W.cell? ⟨w0.heap.size, 4, none⟩ = some (.int .i64 hi) ∧ W.cell? ⟨w0.heap.size, 5, none⟩ = some (.slice bA bn bc) ∧ W.cell? ⟨w0.heap.size, 6, none⟩ = some (.int .i64 lev) ∧ W.cell? ⟨w1.heap.size, 0, none⟩ = some (.int .i64 pz) ∧ W.cell? ⟨w1.heap.size, 1, none⟩ = some (.int .i64 pl) ∧ W.cell? ⟨w1.heap.size, 2, none⟩ = some (.int .i64 ph) ∧ W.cell? ⟨w1.heap.size, 3, none⟩ = some (.int .i64 pt) ∧ Buls W W.heap.size xA (ln + 1) x) w8 := ⟨HR8.out, HX8.out, HP8.out, HB8.out, HZ8.out, HX8.out.cell 0, HX8.out.cell 1, HX8.out.cell 2, HX8.out.cell 3, HX8.out.cell 4, HX8.out.cell 5, HX8.out.cell 6, HP8.out.cell 0, HP8.out.cell 1, HP8.out.cell 2, HP8.out.cell 3, HU8.out⟩
        refine ⟨_, rfl, hH8, ?_⟩
        clear hb8
        try simp only [Act.put, List.setIfInBounds_toArray, List.set_cons_zero, List.set_cons_succ]
        refine held_run 8 (some 153) (.binOp .eql 3 (.tmp 148) (.tmp 152) 3) ?v18_13_8 (by rfl) (by kernel_rfl) (by kernel_rfl) (by kernel_rfl) (fun _ _ _ h => h) (fun o ho w hS => ?y18_13_8) (by assumption) ?r18_13_8
        case y18_13_8 => (try dsimp only at hS); unfold execOp; simp only [ho]; go_simp; try with_reducible rfl
        try simp only [Act.put, List.setIfInBounds_toArray, List.set_cons_zero, List.set_cons_succ]
        refine held_run 9 (some 154) (.move (.tmp 153)) ?v18_13_9 (by rfl) (by kernel_rfl) (by kernel_rfl) (by kernel_rfl) (fun _ _ _ h => h) (fun o ho w hS => ?y18_13_9) (by assumption) ?r18_13_9
        case y18_13_9 => (try dsimp only at hS); unfold execOp; simp only [ho]; go_simp; try with_reducible rfl
        try simp only [Act.put, List.setIfInBounds_toArray, List.set_cons_zero, List.set_cons_succ]
        refine held_run 10 (some 155) (.move (.tmp 7)) ?v18_13_10 (by rfl) (by kernel_rfl) (by kernel_rfl) (by kernel_rfl) (fun _ _ _ h => h) (fun o ho w hS => ?y18_13_10) (by assumption) ?r18_13_10
        case y18_13_10 => (try dsimp only at hS); unfold execOp; simp only [ho]; go_simp; try with_reducible rfl
        try simp only [Act.put, List.setIfInBounds_toArray, List.set_cons_zero, List.set_cons_succ]
        refine held_load 11 (some 156) 37 (.tmp 5) (by rfl) (by kernel_rfl) (by kernel_rfl) (by kernel_rfl) (w1.heap.size) 37 #[.int .i64 pz, .int .i64 pl, .int .i64 ph, .int .i64 pt] (fun _ _ _ h => h) (by rfl) (fun _ h => h.2.2.1) _ Try.underlying37 rfl (by kernel_rfl) (by assumption) ?_
        try simp only [Act.put, List.setIfInBounds_toArray, List.set_cons_zero, List.set_cons_succ]
        refine held_run 13 (some 158) (.move (.tmp 0)) ?v18_13_13 (by rfl) (by kernel_rfl) (by kernel_rfl) (by kernel_rfl) (fun _ _ _ h => h) (fun o ho w hS => ?y18_13_13) (by assumption) ?r18_13_13
        case y18_13_13 => (try dsimp only at hS); unfold execOp; simp only [ho]; go_simp; try with_reducible rfl
        try simp only [Act.put, List.setIfInBounds_toArray, List.set_cons_zero, List.set_cons_succ]
        refine held_load 14 (some 159) 37 (.tmp 5) (by rfl) (by kernel_rfl) (by kernel_rfl) (by kernel_rfl) (w1.heap.size) 37 #[.int .i64 pz, .int .i64 pl, .int .i64 ph, .int .i64 pt] (fun _ _ _ h => h) (by rfl) (fun _ h => h.2.2.1) _ Try.underlying37 rfl (by kernel_rfl) (by assumption) ?_
        try simp only [Act.put, List.setIfInBounds_toArray, List.set_cons_zero, List.set_cons_succ]
        refine held_call 12 (some 157) 19 [(.tmp 155), (.tmp 156)] #[22, 37] #[.slice xA (ln + 1) xc, .agg #[.int .i64 pz, .int .i64 pl, .int .i64 ph, .int .i64 pt]] (by rfl) (by rfl) (by kernel_rfl) Try.func19 (by rfl) (by rfl) ?_
        refine (HLev.out _ _ _ x _ v2 HU8.out hxm (HC2.out.trans HV2.out)).mono ?_
        rintro e w9 ⟨rfl, hb9⟩
        have HB9 := Lib.hid (HB8.out.trans (hb9.mono HB8.out.size))
        have HR9 := Lib.hid (HR8.out.now hb9)
        have HZ9 := Lib.hid (HZ8.out.now hb9)
        have HX9 := Lib.hid (HX8.out.below hb9 HX8.out.lt)
        have HP9 := Lib.hid (HP8.out.below hb9 HP8.out.lt)
        have HU9 := Lib.hid (HU8.out.now hb9)
        have hH9 : (fun W => (Buls W W.heap.size lA ln l) ∧ Blk W w0.heap.size 31 #[.int .i64 ver, .int .i64 fr, .int .i64 ti, .int .i64 lo, .int .i64 hi, .slice bA bn bc, .int .i64 lev] ∧ Blk W w1.heap.size 37 #[.int .i64 pz, .int .i64 pl, .int .i64 ph, .int .i64 pt] ∧ Below w0.heap.size w0 W ∧ Ints W W.heap.size bA bn zs ∧ W.cell? ⟨w0.heap.size, 0, none⟩ = some (.int .i64 ver) ∧ W.cell? ⟨w0.heap.size, 1, none⟩ = some (.int .i64 fr) ∧ W.cell? ⟨w0.heap.size, 2, none⟩ = some (.int .i64 ti) ∧ W.cell? ⟨w0.heap.size, 3, none⟩ = some (.int .i64 lo) ∧ W.cell? ⟨w0.heap.size, 4, none⟩ = some (.int .i64 hi) ∧ W.cell? ⟨w0.heap.size, 5, none⟩ = some (.slice bA bn bc) ∧ W.cell? ⟨w0.heap.size, 6, none⟩ = some (.int .i64 lev) ∧ W.cell? ⟨w1.heap.size, 0, none⟩ = some (.int .i64 pz) ∧ W.cell? ⟨w1.heap.size, 1, none⟩ = some (.int .i64 pl) ∧ W.cell? ⟨w1.heap.size, 2, none⟩ = some (.int .i64 ph) ∧ W.cell? ⟨w1.heap.size, 3, none⟩ = some (.int .i64 pt) ∧ Buls W W.heap.size xA (ln + 1) x) w9 := ⟨HR9.out, HX9.out, HP9.out, HB9.out, HZ9.out, HX9.out.cell 0, HX9.out.cell 1, HX9.out.cell 2, HX9.out.cell 3, HX9.out.cell 4, HX9.out.cell 5, HX9.out.cell 6, HP9.out.cell 0, HP9.out.cell 1, HP9.out.cell 2, HP9.out.cell 3, HU9.out⟩
        refine ⟨_, rfl, hH9, ?_⟩
        clear hb9
        try simp only [Act.put, List.setIfInBounds_toArray, List.set_cons_zero, List.set_cons_succ]
        refine held_call 15 (some 160) 19 [(.tmp 158), (.tmp 159)] #[22, 37] #[.slice lA ln lc, .agg #[.int .i64 pz, .int .i64 pl, .int .i64 ph, .int .i64 pt]] (by rfl) (by rfl) (by kernel_rfl) Try.func19 (by rfl) (by rfl) ?_
        refine (HLev.out _ _ _ l _ v2 HR9.out hln HV2.out).mono ?_
        rintro e w10 ⟨rfl, hb10⟩
        have HB10 := Lib.hid (HB9.out.trans (hb10.mono HB9.out.size))
        have HR10 := Lib.hid (HR9.out.now hb10)
        have HZ10 := Lib.hid (HZ9.out.now hb10)
        have HX10 := Lib.hid (HX9.out.below hb10 HX9.out.lt)
        have HP10 := Lib.hid (HP9.out.below hb10 HP9.out.lt)
        have HU10 := Lib.hid (HU9.out.now hb10)
        have hH10 : (fun W => (Buls W W.heap.size lA ln l) ∧ Blk W w0.heap.size 31 #[.int .i64 ver, .int .i64 fr, .int .i64 ti, .int .i64 lo, .int .i64 hi, .slice bA bn bc, .int .i64 lev] ∧ Blk W w1.heap.size 37 #[.int .i64 pz, .int .i64 pl, .int .i64 ph, .int .i64 pt] ∧ Below w0.heap.size w0 W ∧ Ints W W.heap.size bA bn zs ∧ W.cell? ⟨w0.heap.size, 0, none⟩ = some (.int .i64 ver) ∧ W.cell? ⟨w0.heap.size, 1, none⟩ = some (.int .i64 fr) ∧ W.cell? ⟨w0.heap.size, 2, none⟩ = some (.int .i64 ti) ∧ W.cell? ⟨w0.heap.size, 3, none⟩ = some (.int .i64 lo) ∧ W.cell? ⟨w0.heap.size, 4, none⟩ = some (.int .i64 hi) ∧ W.cell? ⟨w0.heap.size, 5, none⟩ = some (.slice bA bn bc) ∧ W.cell? ⟨w0.heap.size, 6, none⟩ = some (.int .i64 lev) ∧ W.cell? ⟨w1.heap.size, 0, none⟩ = some (.int .i64 pz) ∧ W.cell? ⟨w1.heap.size, 1, none⟩ = some (.int .i64 pl) ∧ W.cell? ⟨w1.heap.size, 2, none⟩ = some (.int .i64 ph) ∧ W.cell? ⟨w1.heap.size, 3, none⟩ = some (.int .i64 pt) ∧ Buls W W.heap.size xA (ln + 1) x) w10 := ⟨HR10.out, HX10.out, HP10.out, HB10.out, HZ10.out, HX10.out.cell 0, HX10.out.cell 1, HX10.out.cell 2, HX10.out.cell 3, HX10.out.cell 4, HX10.out.cell 5, HX10.out.cell 6, HP10.out.cell 0, HP10.out.cell 1, HP10.out.cell 2, HP10.out.cell 3, HU10.out⟩
        refine ⟨_, rfl, hH10, ?_⟩
        clear hb10
        try simp only [Act.put, List.setIfInBounds_toArray, List.set_cons_zero, List.set_cons_succ]
        refine held_run 16 (some 161) (.binOp .eql 3 (.tmp 157) (.tmp 160) 3) ?v18_13_16 (by rfl) (by kernel_rfl) (by kernel_rfl) (by kernel_rfl) (fun _ _ _ h => h) (fun o ho w hS => ?y18_13_16) (by assumption) ?r18_13_16
        case y18_13_16 => (try dsimp only at hS); unfold execOp; simp only [ho]; go_simp; try with_reducible rfl
        try simp only [Act.put, List.setIfInBounds_toArray, List.set_cons_zero, List.set_cons_succ]
        refine held_run 17 (some 162) (.pick (.tmp 154) (.tmp 161) (.const (Value.bool false))) ?v18_13_17 (by rfl) (by kernel_rfl) (by kernel_rfl) (by kernel_rfl) (fun _ _ _ h => h) (fun o ho w hS => ?y18_13_17) (by assumption) ?r18_13_17
        case y18_13_17 => (try dsimp only at hS); unfold execOp; simp only [ho]; go_simp; try with_reducible rfl
        try simp only [Act.put, List.setIfInBounds_toArray, List.set_cons_zero, List.set_cons_succ]
        refine held_run 18 (some 163) (.move (.tmp 162)) ?v18_13_18 (by rfl) (by kernel_rfl) (by kernel_rfl) (by kernel_rfl) (fun _ _ _ h => h) (fun o ho w hS => ?y18_13_18) (by assumption) ?r18_13_18
        case y18_13_18 => (try dsimp only at hS); unfold execOp; simp only [ho]; go_simp; try with_reducible rfl
        try simp only [Act.put, List.setIfInBounds_toArray, List.set_cons_zero, List.set_cons_succ]
        refine held_run 19 (some 164) (.move (.tmp 7)) ?v18_13_19 (by rfl) (by kernel_rfl) (by kernel_rfl) (by kernel_rfl) (fun _ _ _ h => h) (fun o ho w hS => ?y18_13_19) (by assumption) ?r18_13_19
        case y18_13_19 => (try dsimp only at hS); unfold execOp; simp only [ho]; go_simp; try with_reducible rfl
        try simp only [Act.put, List.setIfInBounds_toArray, List.set_cons_zero, List.set_cons_succ]
        refine held_run 20 (some 165) (.fieldAddr 37 (.tmp 5) 3) ?v18_13_20 (by rfl) (by kernel_rfl) (by kernel_rfl) (by kernel_rfl) (fun _ _ _ h => h) (fun o ho w hS => ?y18_13_20) (by assumption) ?r18_13_20
        case y18_13_20 => (try dsimp only at hS); unfold execOp; simp only [ho]; go_simp; try with_reducible rfl
        try simp only [Act.put, List.setIfInBounds_toArray, List.set_cons_zero, List.set_cons_succ]
        refine held_run 21 (some 166) (.load 3 (.tmp 165)) ?v18_13_21 (by rfl) (by kernel_rfl) (by kernel_rfl) (by kernel_rfl) (fun _ _ _ h => h) (fun o ho w hS => ?y18_13_21) (by assumption) ?r18_13_21
        case y18_13_21 => (try dsimp only at hS); unfold execOp; simp only [ho]; go_simp; try with_reducible rfl
        try simp only [Act.put, List.setIfInBounds_toArray, List.set_cons_zero, List.set_cons_succ]
        refine held_run 23 (some 168) (.move (.tmp 0)) ?v18_13_23 (by rfl) (by kernel_rfl) (by kernel_rfl) (by kernel_rfl) (fun _ _ _ h => h) (fun o ho w hS => ?y18_13_23) (by assumption) ?r18_13_23
        case y18_13_23 => (try dsimp only at hS); unfold execOp; simp only [ho]; go_simp; try with_reducible rfl
        try simp only [Act.put, List.setIfInBounds_toArray, List.set_cons_zero, List.set_cons_succ]
        refine held_run 24 (some 169) (.fieldAddr 37 (.tmp 5) 3) ?v18_13_24 (by rfl) (by kernel_rfl) (by kernel_rfl) (by kernel_rfl) (fun _ _ _ h => h) (fun o ho w hS => ?y18_13_24) (by assumption) ?r18_13_24
        case y18_13_24 => (try dsimp only at hS); unfold execOp; simp only [ho]; go_simp; try with_reducible rfl
        try simp only [Act.put, List.setIfInBounds_toArray, List.set_cons_zero, List.set_cons_succ]
        refine held_run 25 (some 170) (.load 3 (.tmp 169)) ?v18_13_25 (by rfl) (by kernel_rfl) (by kernel_rfl) (by kernel_rfl) (fun _ _ _ h => h) (fun o ho w hS => ?y18_13_25) (by assumption) ?r18_13_25
        case y18_13_25 => (try dsimp only at hS); unfold execOp; simp only [ho]; go_simp; try with_reducible rfl
        try simp only [Act.put, List.setIfInBounds_toArray, List.set_cons_zero, List.set_cons_succ]
        refine held_call 22 (some 167) 21 [(.tmp 164), (.tmp 166)] #[22, 3] #[.slice xA (ln + 1) xc, .int .i64 pt] (by rfl) (by rfl) (by kernel_rfl) Try.func21 (by rfl) (by rfl) ?_
        refine (HWor.out _ _ _ x _ v3 HU10.out hxm (HC3.out.trans HV3.out)).mono ?_
        rintro e w11 ⟨rfl, hb11⟩
        have HB11 := Lib.hid (HB10.out.trans (hb11.mono HB10.out.size))
        have HR11 := Lib.hid (HR10.out.now hb11)
        have HZ11 := Lib.hid (HZ10.out.now hb11)
        have HX11 := Lib.hid (HX10.out.below hb11 HX10.out.lt)
        have HP11 := Lib.hid (HP10.out.below hb11 HP10.out.lt)
        have HU11 := Lib.hid (HU10.out.now hb11)
        have hH11 : (fun W => (Buls W W.heap.size lA ln l) ∧ Blk W w0.heap.size 31 #[.int .i64 ver, .int .i64 fr, .int .i64 ti, .int .i64 lo, .int .i64 hi, .slice bA bn bc, .int .i64 lev] ∧ Blk W w1.heap.size 37 #[.int .i64 pz, .int .i64 pl, .int .i64 ph, .int .i64 pt] ∧ Below w0.heap.size w0 W ∧ Ints W W.heap.size bA bn zs ∧ W.cell? ⟨w0.heap.size, 0, none⟩ = some (.int .i64 ver) ∧ W.cell? ⟨w0.heap.size, 1, none⟩ = some (.int .i64 fr) ∧ W.cell? ⟨w0.heap.size, 2, none⟩ = some (.int .i64 ti) ∧ W.cell? ⟨w0.heap.size, 3, none⟩ = some (.int .i64 lo) ∧ W.cell? ⟨w0.heap.size, 4, none⟩ = some (.int .i64 hi) ∧ W.cell? ⟨w0.heap.size, 5, none⟩ = some (.slice bA bn bc) ∧ W.cell? ⟨w0.heap.size, 6, none⟩ = some (.int .i64 lev) ∧ W.cell? ⟨w1.heap.size, 0, none⟩ = some (.int .i64 pz) ∧ W.cell? ⟨w1.heap.size, 1, none⟩ = some (.int .i64 pl) ∧ W.cell? ⟨w1.heap.size, 2, none⟩ = some (.int .i64 ph) ∧ W.cell? ⟨w1.heap.size, 3, none⟩ = some (.int .i64 pt) ∧ Buls W W.heap.size xA (ln + 1) x) w11 := ⟨HR11.out, HX11.out, HP11.out, HB11.out, HZ11.out, HX11.out.cell 0, HX11.out.cell 1, HX11.out.cell 2, HX11.out.cell 3, HX11.out.cell 4, HX11.out.cell 5, HX11.out.cell 6, HP11.out.cell 0, HP11.out.cell 1, HP11.out.cell 2, HP11.out.cell 3, HU11.out⟩
        refine ⟨_, rfl, hH11, ?_⟩
        clear hb11
        try simp only [Act.put, List.setIfInBounds_toArray, List.set_cons_zero, List.set_cons_succ]
        refine held_call 26 (some 171) 21 [(.tmp 168), (.tmp 170)] #[22, 3] #[.slice lA ln lc, .int .i64 pt] (by rfl) (by rfl) (by kernel_rfl) Try.func21 (by rfl) (by rfl) ?_
        refine (HWor.out _ _ _ l _ v3 HR11.out hln HV3.out).mono ?_
        rintro e w12 ⟨rfl, hb12⟩
        have HB12 := Lib.hid (HB11.out.trans (hb12.mono HB11.out.size))
        have HR12 := Lib.hid (HR11.out.now hb12)
        have HZ12 := Lib.hid (HZ11.out.now hb12)
        have HX12 := Lib.hid (HX11.out.below hb12 HX11.out.lt)
        have HP12 := Lib.hid (HP11.out.below hb12 HP11.out.lt)
        have HU12 := Lib.hid (HU11.out.now hb12)
        have hH12 : (fun W => (Buls W W.heap.size lA ln l) ∧ Blk W w0.heap.size 31 #[.int .i64 ver, .int .i64 fr, .int .i64 ti, .int .i64 lo, .int .i64 hi, .slice bA bn bc, .int .i64 lev] ∧ Blk W w1.heap.size 37 #[.int .i64 pz, .int .i64 pl, .int .i64 ph, .int .i64 pt] ∧ Below w0.heap.size w0 W ∧ Ints W W.heap.size bA bn zs ∧ W.cell? ⟨w0.heap.size, 0, none⟩ = some (.int .i64 ver) ∧ W.cell? ⟨w0.heap.size, 1, none⟩ = some (.int .i64 fr) ∧ W.cell? ⟨w0.heap.size, 2, none⟩ = some (.int .i64 ti) ∧ W.cell? ⟨w0.heap.size, 3, none⟩ = some (.int .i64 lo) ∧ W.cell? ⟨w0.heap.size, 4, none⟩ = some (.int .i64 hi) ∧ W.cell? ⟨w0.heap.size, 5, none⟩ = some (.slice bA bn bc) ∧ W.cell? ⟨w0.heap.size, 6, none⟩ = some (.int .i64 lev) ∧ W.cell? ⟨w1.heap.size, 0, none⟩ = some (.int .i64 pz) ∧ W.cell? ⟨w1.heap.size, 1, none⟩ = some (.int .i64 pl) ∧ W.cell? ⟨w1.heap.size, 2, none⟩ = some (.int .i64 ph) ∧ W.cell? ⟨w1.heap.size, 3, none⟩ = some (.int .i64 pt) ∧ Buls W W.heap.size xA (ln + 1) x) w12 := ⟨HR12.out, HX12.out, HP12.out, HB12.out, HZ12.out, HX12.out.cell 0, HX12.out.cell 1, HX12.out.cell 2, HX12.out.cell 3, HX12.out.cell 4, HX12.out.cell 5, HX12.out.cell 6, HP12.out.cell 0, HP12.out.cell 1, HP12.out.cell 2, HP12.out.cell 3, HU12.out⟩
        refine ⟨_, rfl, hH12, ?_⟩
        clear hb12
        try simp only [Act.put, List.setIfInBounds_toArray, List.set_cons_zero, List.set_cons_succ]
        refine held_run 27 (some 172) (.binOp .eql 3 (.tmp 167) (.tmp 171) 3) ?v18_13_27 (by rfl) (by kernel_rfl) (by kernel_rfl) (by kernel_rfl) (fun _ _ _ h => h) (fun o ho w hS => ?y18_13_27) (by assumption) ?r18_13_27
        case y18_13_27 => (try dsimp only at hS); unfold execOp; simp only [ho]; go_simp; try with_reducible rfl
        try simp only [Act.put, List.setIfInBounds_toArray, List.set_cons_zero, List.set_cons_succ]
        refine held_run 28 (some 173) (.pick (.tmp 163) (.tmp 172) (.const (Value.bool false))) ?v18_13_28 (by rfl) (by kernel_rfl) (by kernel_rfl) (by kernel_rfl) (fun _ _ _ h => h) (fun o ho w hS => ?y18_13_28) (by assumption) ?r18_13_28
        case y18_13_28 => (try dsimp only at hS); unfold execOp; simp only [ho]; go_simp; try with_reducible rfl
        try simp only [Act.put, List.setIfInBounds_toArray, List.set_cons_zero, List.set_cons_succ]
        refine held_run 29 (some 6) (.assign (.tmp 173)) ?v18_13_29 (by rfl) (by kernel_rfl) (by kernel_rfl) (by kernel_rfl) (fun _ _ _ h => h) (fun o ho w hS => ?y18_13_29) (by assumption) ?r18_13_29
        case y18_13_29 => (try dsimp only at hS); unfold execOp; simp only [ho]; go_simp; try with_reducible rfl
        try simp only [Act.put, List.setIfInBounds_toArray, List.set_cons_zero, List.set_cons_succ]
        refine wpAnyH_done (by kernel_rfl) ?_ _
        go_wp2_with fail
        go_ret
        exact ⟨rfl, HB12.out⟩
    · obtain ⟨_, rfl⟩ : v ≠ 0 ∧ e = .returned (.tuple #[.slice none 0 0, .int .i64 v]) := hres.resolve_right fun h => h0 h.1
      have d9 : (v != 0) = true := bne_iff_ne.2 h0
      clear hres
      go_wp2_with fail
      go_ret
      exact ⟨rfl, HB5.out⟩


theorem own_bulletinIssued : ownKnob Try.prog.godebug = none := by kernel_rfl
theorem laidOut_bulletinIssued : laidOutB Try.prog = true := by kernel_rfl
set_option maxRecDepth 100000 in
theorem bulletinIssued_lifted (os : Os) (started : os.Started) (H : Type) (enc : TypeId × Value → H) :
    ReturnsInHanded {} Try.checked os 8 .any (Rows.bulletinIssuedSpec.pre6 enc Try.prog Try.f8 Rows.bulletinIssuedRow.domain false) (Rows.bulletinIssuedSpec.post enc Try.prog Try.f8 false true false false) := by
  refine returnsInHanded_of_change (C := Try.checked) own_bulletinIssued started (by kernel_rfl) Try.func8
    (ChangeSpec.witness6 (enc := enc) (C := Try.checked) false ⟨#[], #[.slice none 0 0, .agg #[.int .i64 0, .int .i64 0, .int .i64 0, .int .i64 0, .int .i64 0, .slice none 0 0, .int .i64 0], .agg #[.int .i64 0, .int .i64 0, .int .i64 0, .int .i64 0]], []⟩ 8 (by kernel_rfl) (by kernel_rfl) (by kernel_rfl) (by kernel_rfl)) ?_
  intro W base args ds gs before hval0 hW hcnd _
  have hval : ∀ (j : Nat) t v, Try.f8.params[j]? = some t → args[j]? = some v → Value.okWide Try.prog W .any base t v := hval0
  have hW' := hW
  obtain ⟨p, q, hA0, hV, rfl, hfz, hnd⟩ := hW
  have hA : DataW.TrodAll enc Try.prog W 0 (fun _ => true) true Try.f8.params.toList args.toList ds p := hA0
  rw [Try.params8] at hA hval
  obtain ⟨v0, vs0, d0, ds0, p0, q0, hargs, rfl, rfl, h0, r0⟩ := trodAll_cons hA
  obtain ⟨v1, vs1, d1, ds1, p1, q1, rfl, rfl, rfl, h1, r1⟩ := trodAll_cons r0
  obtain ⟨v2, vs2, d2, ds2, p2, q2, rfl, rfl, rfl, h2, r2⟩ := trodAll_cons r1
  obtain ⟨rfl, rfl, rfl⟩ := trodAll_nil r2
  obtain rfl : args = #[v0, v1, v2] := by cases args; simp_all
  obtain ⟨rfl, rfl⟩ := trodVars_none hV
  obtain ⟨lA, ln, lc, l, rfl, l1, l2, lr, lw⟩ := open_buls (hval 0 22 v0 rfl rfl) h0
  obtain ⟨b, bA, bc, rfl, b1, b2, br, bw⟩ := open_bul (hval 1 31 v1 rfl rfl) h1
  obtain ⟨ol, rfl, oll, of⟩ := open_agg Try.underlying37 (by kernel_rfl) (by kernel_rfl) (hval 2 37 v2 rfl rfl) h2
  obtain ⟨u0, u1, u2, u3, rfl⟩ := list_len4 ol oll
  obtain ⟨pz, rfl, wpz⟩ := field_int Try.underlying3 (of 0 _ _ rfl rfl)
  obtain ⟨pl, rfl, wpl⟩ := field_int Try.underlying3 (of 1 _ _ rfl rfl)
  obtain ⟨ph, rfl, wph⟩ := field_int Try.underlying3 (of 2 _ _ rfl rfl)
  obtain ⟨pt, rfl, wpt⟩ := field_int Try.underlying3 (of 3 _ _ rfl rfl)
  refine (bulletinIssued_any W lA ln lc l l1 l2 lr lw b bA bc b1 b2 br bw pz pl ph pt wpz wpl wph wpt).mono fun e W' ⟨he, hb⟩ => ?_
  subst he
  exact ⟨_, rfl, law_post laidOut_bulletinIssued (by kernel_rfl) rfl rfl Try.underlying4 hW' rfl hb⟩

theorem bulletinIssued_holds : Rows.BulletinIssuedSaid :=
  OpenClaim.holds_of_wide 8 Try.f8 rfl rfl rfl rfl rfl rfl rfl ⟨rfl, rfl, rfl, rfl, rfl⟩ rfl rfl rfl rfl rfl (by kernel_rfl) Try.func8 (by kernel_rfl)
    (of_decide_eq_true (by kernel_rfl)) (by unfold Func.isWrapper; rw [if_neg (by decide +kernel)]; exact ⟨rfl, rfl⟩)
    (fun os started H enc _ => bulletinIssued_lifted os started H enc)
#print axioms bulletinIssued_holds
end Go.Proofs.Ytmbdlnimegdigaa
