/-
  Done and Same of the reference of chapter 56, walked.
-/
import Derived.Test.YticoeibccdplaaaSwpW
namespace Go.Proofs.Yticoeibccdplaaa
open Go.RowKit

set_option maxRecDepth 100000 in
set_option maxHeartbeats 4000000 in
theorem rdone_any (v1 v2 : Value) (bg : Int) (runs : List Int) (sw : List Sw) (w : World) (hr1 : RowV w w.heap.size v1 runs) (hr2 : StrV Sw.cells 4 w w.heap.size v2 sw) :
    Calls Try.prog 25 #[.agg #[v1, v2, .int .i64 bg]] w fun e w' => e = .returned (.bool (doneB runs sw)) ∧ Below w.heap.size w w' := by
  obtain ⟨A, n, c, rfl, HL, h3, h4, hr⟩ := hr1.nam
  have HR := Lib.hid hr
  have HSv := Lib.hid hr2
  have hn : n ≤ maxLen := Nat.le_trans h3 h4
  unfold maxLen at hn
  clear hr1 hr2 hr h3 h4
  unfold doneB
  obtain ⟨r, hr⟩ : ∃ r, (runs.all fun r => (sw.map Sw.run).contains r) = r := ⟨_, rfl⟩
  rw [hr]
  have HF0 := Lib.hid hr
  clear hr
  go_enter Try.func25, Try.ntmps25
  go_wp2_with fail
  have HBwb := (Blk.new w 30 #[.slice A n c, v2, .int .i64 bg])
  have HLwb := (below_new w (.cells #[.slice A n c, v2, .int .i64 bg] 30))
  have hswb : (w.alloc (.cells #[.slice A n c, v2, .int .i64 bg] 30)).heap.size = w.heap.size + 1 := by simp
  generalize w.alloc (.cells #[.slice A n c, v2, .int .i64 bg] 30) = wb at HBwb HLwb hswb ⊢
  replace HBwb := Lib.hid HBwb
  replace HLwb := Lib.hid HLwb
  have hlwb : w.heap.size < wb.heap.size := by omega
  replace hswb := Lib.hid hswb
  have HWb := Lib.hid (HLwb.out)
  have hl0 : w.heap.size ≤ wb.heap.size := HWb.out.size
  have HBb : Hid (Below wb.heap.size wb wb) := hide (Below.refl _ _)
  have hszb : wb.heap.size ≤ wb.heap.size := Nat.le_refl _
  have HX0b : Hid (Blk wb w.heap.size 30 #[.slice A n c, v2, .int .i64 bg]) := hide HBwb.out
  have hxx0 : w.heap.size < wb.heap.size := HX0b.out.lt
  clear HBwb HLwb hswb hlwb
  have HRb := Lib.hid (HR.out.now HWb.out)
  have HSvb := Lib.hid (HSv.out.now HWb.out)
  go_loopw [3] (fun i wr => ∃ k : Nat, k ≤ n ∧ i = .int .i64 k ∧ r = ((runs.drop k).all fun r => (sw.map Sw.run).contains r) ∧ Below wb.heap.size wb wr) (fun i _ => n - (intOf i).toNat)
  case atStart => exact ⟨0, by omega, rfl, HF0.out.symm, Below.refl _ _⟩
  case round =>
    obtain ⟨k, hk, rfl, hF, hbr⟩ := hrel
    have HF := Lib.hid hF
    clear hF
    obtain ⟨wo, rfl⟩ : ∃ wo : World, wo = wr := ⟨_, rfl⟩
    have HBo := Lib.hid (HBb.out.trans (hbr.mono hszb))
    have HWo := Lib.hid (HWb.out.trans (hbr.mono HWb.out.size))
    have hszo : wb.heap.size ≤ wo.heap.size := Nat.le_trans hszb hbr.size
    have HX0o := Lib.hid (HX0b.out.below hbr (Nat.lt_of_lt_of_le hxx0 hszb))
    have HRo := Lib.hid (HRb.out.now hbr)
    have HSvo := Lib.hid (HSvb.out.now hbr)
    clear hbr
    have s0 : wo.cell? ⟨w.heap.size, 0, none⟩ = some (.slice A n c) := HX0o.out.cell 0
    have s1 : wo.cell? ⟨w.heap.size, 1, none⟩ = some (v2) := HX0o.out.cell 1
    have s2 : wo.cell? ⟨w.heap.size, 2, none⟩ = some (.int .i64 bg) := HX0o.out.cell 2
    by_cases hlt : k < n
    · obtain ⟨ad, rfl, _, hc⟩ := HRo.out.int hlt
      have HS := Lib.hid (HF.out.trans (all_at _ runs k (by rw [HL.out]; exact hlt)))
      generalize runs.getD k 0 = x at *
      obtain ⟨b, hb⟩ : ∃ b, (sw.map Sw.run).contains x = b := ⟨_, rfl⟩
      have HSvd : Hid (StrV Sw.cells 4 wo.drew wo.drew.heap.size v2 sw) := hide HSvo.out
      go_wp2_with fail
      refine wp_region_held_drew (S := fun W => W.cell? ⟨w.heap.size, 0, none⟩ = some (.slice (some ad) n c) ∧ W.cell? ⟨w.heap.size, 1, none⟩ = some v2 ∧ W.cell? (ad.add k) = some (.int .i64 x)) (by kernel_rfl) (⟨s0, s1, hc⟩) (fun hHeld => ?_)
      refine held_run 0 (some 11) (.fieldAddr 30 (.tmp 1) 1) ?v4_1_2 (by rfl) (by kernel_rfl) (by kernel_rfl) (by kernel_rfl) (fun _ _ _ h => h) (fun o ho w hS => ?y4_1_2) (by assumption) ?r4_1_2
      case y4_1_2 => (try dsimp only at hS); unfold execOp; simp only [ho]; go_simp; try with_reducible rfl
      try simp only [Act.put, List.setIfInBounds_toArray, List.set_cons_zero, List.set_cons_succ]
      refine held_run 1 (some 12) (.load 28 (.tmp 11)) ?v4_1_3 (by rfl) (by kernel_rfl) (by kernel_rfl) (by kernel_rfl) (fun _ _ _ h => h) (fun o ho w hS => ?y4_1_3) (by assumption) ?r4_1_3
      case y4_1_3 => (try dsimp only at hS); unfold execOp; simp only [ho]; go_simp; try with_reducible rfl
      try simp only [Act.put, List.setIfInBounds_toArray, List.set_cons_zero, List.set_cons_succ]
      refine held_run 2 (some 13) (.fieldAddr 30 (.tmp 1) 0) ?v4_1_4 (by rfl) (by kernel_rfl) (by kernel_rfl) (by kernel_rfl) (fun _ _ _ h => h) (fun o ho w hS => ?y4_1_4) (by assumption) ?r4_1_4
      case y4_1_4 => (try dsimp only at hS); unfold execOp; simp only [ho]; go_simp; try with_reducible rfl
      try simp only [Act.put, List.setIfInBounds_toArray, List.set_cons_zero, List.set_cons_succ]
      refine held_run 3 (some 14) (.load 25 (.tmp 13)) ?v4_1_5 (by rfl) (by kernel_rfl) (by kernel_rfl) (by kernel_rfl) (fun _ _ _ h => h) (fun o ho w hS => ?y4_1_5) (by assumption) ?r4_1_5
      case y4_1_5 => (try dsimp only at hS); unfold execOp; simp only [ho]; go_simp; try with_reducible rfl
      try simp only [Act.put, List.setIfInBounds_toArray, List.set_cons_zero, List.set_cons_succ]
      refine held_run 4 (some 15) (.move (.tmp 3)) ?v4_1_6 (by rfl) (by kernel_rfl) (by kernel_rfl) (by kernel_rfl) (fun _ _ _ h => h) (fun o ho w hS => ?y4_1_6) (by assumption) ?r4_1_6
      case y4_1_6 => (try dsimp only at hS); unfold execOp; simp only [ho]; go_simp; try with_reducible rfl
      try simp only [Act.put, List.setIfInBounds_toArray, List.set_cons_zero, List.set_cons_succ]
      refine held_run 5 (some 16) (.indexAddr 25 (.tmp 14) (.tmp 15)) ?v4_1_7 (by rfl) (by kernel_rfl) (by kernel_rfl) (by kernel_rfl) (fun _ _ _ h => h) (fun o ho w hS => ?y4_1_7) (by assumption) ?r4_1_7
      case y4_1_7 => (try dsimp only at hS); unfold execOp; simp only [ho]; go_simp; try with_reducible rfl
      try simp only [Act.put, List.setIfInBounds_toArray, List.set_cons_zero, List.set_cons_succ]
      refine held_run 6 (some 17) (.load 3 (.tmp 16)) ?v4_1_8 (by rfl) (by kernel_rfl) (by kernel_rfl) (by kernel_rfl) (fun _ _ _ h => h) (fun o ho w hS => ?y4_1_8) (by assumption) ?r4_1_8
      case y4_1_8 => (try dsimp only at hS); unfold execOp; simp only [ho]; go_simp; try with_reducible rfl
      try simp only [Act.put, List.setIfInBounds_toArray, List.set_cons_zero, List.set_cons_succ]
      refine held_call 7 (some 18) 46 [(.tmp 12), (.tmp 17)] #[28, 3] #[v2, .int .i64 x] (by rfl) (by rfl) (by kernel_rfl) Try.func46 (by rfl) (by rfl) ?_
      refine (rswept_any _ _ sw x b _ HSvd.out hb).mono ?_
      rintro e w' ⟨rfl, rfl⟩
      refine ⟨_, rfl, ⟨s0, s1, hc⟩, ?_⟩
      try simp only [Act.put, List.setIfInBounds_toArray, List.set_cons_zero, List.set_cons_succ]
      refine held_run 8 (some 19) (.unOp .not 4 (.tmp 18)) ?v4_1_10 (by rfl) (by kernel_rfl) (by kernel_rfl) (by kernel_rfl) (fun _ _ _ h => h) (fun o ho w hS => ?y4_1_10) (by assumption) ?r4_1_10
      case y4_1_10 => (try dsimp only at hS); unfold execOp; simp only [ho]; go_simp; try with_reducible rfl
      try simp only [Act.put, List.setIfInBounds_toArray, List.set_cons_zero, List.set_cons_succ]
      refine wpAnyH_done (by kernel_rfl) ?_ _
      cases b with
      | true =>
        have HF1 : Hid (r = ((runs.drop (k + 1)).all fun r => (sw.map Sw.run).contains r)) := hide (HS.out.trans (by rw [hb]; rfl))
        go_wp2_with fail
        go_roundw
        case rel => exact ⟨k + 1, by omega, by go_num, HF1.out, HBo.out.drew⟩
        case measure => simp [intOf]; omega
      | false =>
        have HF1 : Hid (r = false) := hide (HS.out.trans (by rw [hb]; rfl))
        go_wp2_with fail
        go_ret
        exact ⟨ret_b HF1.out.symm, HWo.out.drew⟩
    · obtain rfl : k = n := by omega
      have HF1 : Hid (r = true) := by have h := HF.out; rw [List.drop_of_length_le (by rw [HL.out]; exact Nat.le_refl _)] at h; exact hide h
      go_wp2_with fail
      go_ret
      exact ⟨ret_b HF1.out.symm, HWo.out⟩

set_option maxRecDepth 100000 in
set_option maxHeartbeats 4000000 in
theorem rsame_any (x1 y1 x2 y2 : Value) (bg : Int) (runs : List Int) (sw : List Sw) (w : World) (hx1 : RowV w w.heap.size x1 runs) (hy1 : StrV Sw.cells 4 w w.heap.size y1 sw) (hx2 : RowV w w.heap.size x2 runs) (hy2 : StrV Sw.cells 4 w w.heap.size y2 sw) :
    Calls Try.prog 23 #[.agg #[x1, y1, .int .i64 bg], .agg #[x2, y2, .int .i64 bg]] w fun e w' => e = .returned (.bool true) ∧ Below w.heap.size w w' := by
  have HX1 := Lib.hid hx1
  have HX2 := Lib.hid hx2
  obtain ⟨A, n, c, rfl, HL, h3, h4, hr⟩ := hy1.nam
  obtain ⟨A', n', c', rfl, HL', _, _, hr'⟩ := hy2.nam
  obtain rfl : n' = n := by rw [← HL.out, HL'.out]
  have HR := Lib.hid hr
  have HR' := Lib.hid hr'
  have hn : n' ≤ maxLen := Nat.le_trans h3 h4
  unfold maxLen at hn
  clear hx1 hx2 hy1 hy2 hr hr' h3 h4 HL'
  go_enter Try.func23, Try.ntmps23
  go_wp2_with fail
  have HBwz0 := (Blk.new w 30 #[x1, .slice A n' c, .int .i64 bg])
  have HLwz0 := (below_new w (.cells #[x1, .slice A n' c, .int .i64 bg] 30))
  have hswz0 : (w.alloc (.cells #[x1, .slice A n' c, .int .i64 bg] 30)).heap.size = w.heap.size + 1 := by simp
  generalize w.alloc (.cells #[x1, .slice A n' c, .int .i64 bg] 30) = wz0 at HBwz0 HLwz0 hswz0 ⊢
  replace HBwz0 := Lib.hid HBwz0
  replace HLwz0 := Lib.hid HLwz0
  have hlwz0 : w.heap.size < wz0.heap.size := by omega
  replace hswz0 := Lib.hid hswz0
  have HBwb := (Blk.new wz0 30 #[x2, .slice A' n' c', .int .i64 bg])
  have HLwb := (below_new wz0 (.cells #[x2, .slice A' n' c', .int .i64 bg] 30))
  have hswb : (wz0.alloc (.cells #[x2, .slice A' n' c', .int .i64 bg] 30)).heap.size = wz0.heap.size + 1 := by simp
  generalize wz0.alloc (.cells #[x2, .slice A' n' c', .int .i64 bg] 30) = wb at HBwb HLwb hswb ⊢
  replace HBwb := Lib.hid HBwb
  replace HLwb := Lib.hid HLwb
  have hlwb : wz0.heap.size < wb.heap.size := by omega
  replace hswb := Lib.hid hswb
  have HQ1 := Lib.hid (HLwz0.out.trans (HLwb.out.mono HLwz0.out.size))
  have HWb := Lib.hid (HQ1.out)
  have hl0 : w.heap.size ≤ wb.heap.size := HWb.out.size
  have HBb : Hid (Below wb.heap.size wb wb) := hide (Below.refl _ _)
  have hszb : wb.heap.size ≤ wb.heap.size := Nat.le_refl _
  have HZ0_1 := Lib.hid (HBwz0.out.below HLwb.out hlwz0)
  have hz0_1 : w.heap.size < wb.heap.size := HZ0_1.out.lt
  have HX0b : Hid (Blk wb w.heap.size 30 #[x1, .slice A n' c, .int .i64 bg]) := hide HZ0_1.out
  have hxx0 : w.heap.size < wb.heap.size := HX0b.out.lt
  have HX1b : Hid (Blk wb (w.heap.size + 1) 30 #[x2, .slice A' n' c', .int .i64 bg]) := hide (by have h := HBwb.out; rw [show wz0.heap.size = w.heap.size + 1 from by have := hswz0.out; omega] at h; exact h)
  have hxx1 : (w.heap.size + 1) < wb.heap.size := HX1b.out.lt
  clear HBwz0 HLwz0 hswz0 hlwz0
  clear HBwb HLwb hswb hlwb
  have HX1_b := Lib.hid (HX1.out.now HWb.out)
  have HX2_b := Lib.hid (HX2.out.now HWb.out)
  have HRb := Lib.hid (HR.out.now HWb.out)
  have HR'b := Lib.hid (HR'.out.now HWb.out)
  have s0 : wb.cell? ⟨w.heap.size, 0, none⟩ = some (x1) := HX0b.out.cell 0
  have s1 : wb.cell? ⟨w.heap.size, 1, none⟩ = some (.slice A n' c) := HX0b.out.cell 1
  have s2 : wb.cell? ⟨w.heap.size, 2, none⟩ = some (.int .i64 bg) := HX0b.out.cell 2
  have t0 : wb.cell? ⟨w.heap.size + 1, 0, none⟩ = some (x2) := HX1b.out.cell 0
  have t1 : wb.cell? ⟨w.heap.size + 1, 1, none⟩ = some (.slice A' n' c') := HX1b.out.cell 1
  have t2 : wb.cell? ⟨w.heap.size + 1, 2, none⟩ = some (.int .i64 bg) := HX1b.out.cell 2
  have e0 : (bg == bg) = true := beq_self_eq_true _
  have e1 : ((n' : Int) == (n' : Int)) = true := beq_self_eq_true _
  go_wp2_with fail
  with_reducible refine (same_ints _ _ runs runs true _ HX1_b.out HX2_b.out (by simp)).mono ?_
  rintro e w1 ⟨rfl, hb1⟩
  have HB1 := Lib.hid (HBb.out.trans (hb1.mono hszb))
  have HW1 := Lib.hid (HWb.out.trans (hb1.mono HWb.out.size))
  have hsz1 : wb.heap.size ≤ w1.heap.size := Nat.le_trans hszb hb1.size
  have HX01 := Lib.hid (HX0b.out.below hb1 (Nat.lt_of_lt_of_le hxx0 hszb))
  have HX11 := Lib.hid (HX1b.out.below hb1 (Nat.lt_of_lt_of_le hxx1 hszb))
  have HX1_1 := Lib.hid (HX1_b.out.now hb1)
  have HX2_1 := Lib.hid (HX2_b.out.now hb1)
  have HR1 := Lib.hid (HRb.out.now hb1)
  have HR'1 := Lib.hid (HR'b.out.now hb1)
  clear hb1 s0 s1 s2 t0 t1 t2
  go_wp2_with fail
  go_loopw [5] (fun i wr => ∃ k : Nat, k ≤ n' ∧ i = .int .i64 k ∧ Below w1.heap.size w1 wr) (fun i _ => n' - (intOf i).toNat)
  case atStart => exact ⟨0, by omega, rfl, Below.refl _ _⟩
  case round =>
    obtain ⟨k, hk, rfl, hbr⟩ := hrel
    have HQ := Lib.hid hbr
    obtain ⟨wo, rfl⟩ : ∃ wo : World, wo = wr := ⟨_, rfl⟩
    have HBo := Lib.hid (HB1.out.trans (hbr.mono hsz1))
    have HWo := Lib.hid (HW1.out.trans (hbr.mono HW1.out.size))
    have hszo : wb.heap.size ≤ wo.heap.size := Nat.le_trans hsz1 hbr.size
    have HX0o := Lib.hid (HX01.out.below hbr (Nat.lt_of_lt_of_le hxx0 hsz1))
    have HX1o := Lib.hid (HX11.out.below hbr (Nat.lt_of_lt_of_le hxx1 hsz1))
    have HX1_o := Lib.hid (HX1_1.out.now hbr)
    have HX2_o := Lib.hid (HX2_1.out.now hbr)
    have HRo := Lib.hid (HR1.out.now hbr)
    have HR'o := Lib.hid (HR'1.out.now hbr)
    clear hbr
    have s0 : wo.cell? ⟨w.heap.size, 0, none⟩ = some (x1) := HX0o.out.cell 0
    have s1 : wo.cell? ⟨w.heap.size, 1, none⟩ = some (.slice A n' c) := HX0o.out.cell 1
    have s2 : wo.cell? ⟨w.heap.size, 2, none⟩ = some (.int .i64 bg) := HX0o.out.cell 2
    have t0 : wo.cell? ⟨w.heap.size + 1, 0, none⟩ = some (x2) := HX1o.out.cell 0
    have t1 : wo.cell? ⟨w.heap.size + 1, 1, none⟩ = some (.slice A' n' c') := HX1o.out.cell 1
    have t2 : wo.cell? ⟨w.heap.size + 1, 2, none⟩ = some (.int .i64 bg) := HX1o.out.cell 2
    by_cases hlt : k < n'
    · obtain ⟨ad, rfl, hab, hcs⟩ := strs_at HRo.out (fun _ => rfl) HL.out hlt sw0
      obtain ⟨ad', rfl, hab', hcs'⟩ := strs_at HR'o.out (fun _ => rfl) HL.out hlt sw0
      generalize sw.getD k sw0 = q at *
      obtain ⟨run, byy, att, fnd⟩ := q
      have hd0 : ∀ j u, ([.int .i64 run, .int .i64 byy, .int .i64 att, .int .i64 fnd] : List Value)[j]? = some u → wo.cell? ((ad.add (k * 4)).add j) = some u := hcs
      have hd1 : ∀ j u, ([.int .i64 run, .int .i64 byy, .int .i64 att, .int .i64 fnd] : List Value)[j]? = some u → wo.cell? ((ad'.add (k * 4)).add j) = some u := hcs'
      clear hcs hcs'
      go_wp2_with fail
      refine wp_region_held_drew (S := fun W => (∀ j u, ([.int .i64 run, .int .i64 byy, .int .i64 att, .int .i64 fnd] : List Value)[j]? = some u → W.cell? ((ad.add (k * 4)).add j) = some u) ∧ (∀ j u, ([.int .i64 run, .int .i64 byy, .int .i64 att, .int .i64 fnd] : List Value)[j]? = some u → W.cell? ((ad'.add (k * 4)).add j) = some u) ∧ W.cell? ⟨w.heap.size, 1, none⟩ = some (.slice (some ad) n' c) ∧ W.cell? ⟨w.heap.size + 1, 1, none⟩ = some (.slice (some ad') n' c')) (by kernel_rfl) (⟨hd0, hd1, s1, t1⟩) (fun hHeld => ?_)
      refine held_run 0 (some 35) (.fieldAddr 30 (.tmp 2) 1) ?v6_11_12 (by rfl) (by kernel_rfl) (by kernel_rfl) (by kernel_rfl) (fun _ _ _ h => h) (fun o ho w hS => ?y6_11_12) (by assumption) ?r6_11_12
      case y6_11_12 => (try dsimp only at hS); unfold execOp; simp only [ho]; go_simp; try with_reducible rfl
      try simp only [Act.put, List.setIfInBounds_toArray, List.set_cons_zero, List.set_cons_succ]
      refine held_run 1 (some 36) (.load 28 (.tmp 35)) ?v6_11_13 (by rfl) (by kernel_rfl) (by kernel_rfl) (by kernel_rfl) (fun _ _ _ h => h) (fun o ho w hS => ?y6_11_13) (by assumption) ?r6_11_13
      case y6_11_13 => (try dsimp only at hS); unfold execOp; simp only [ho]; go_simp; try with_reducible rfl
      try simp only [Act.put, List.setIfInBounds_toArray, List.set_cons_zero, List.set_cons_succ]
      refine held_run 2 (some 37) (.move (.tmp 5)) ?v6_11_14 (by rfl) (by kernel_rfl) (by kernel_rfl) (by kernel_rfl) (fun _ _ _ h => h) (fun o ho w hS => ?y6_11_14) (by assumption) ?r6_11_14
      case y6_11_14 => (try dsimp only at hS); unfold execOp; simp only [ho]; go_simp; try with_reducible rfl
      try simp only [Act.put, List.setIfInBounds_toArray, List.set_cons_zero, List.set_cons_succ]
      refine held_run 3 (some 38) (.indexAddr 28 (.tmp 36) (.tmp 37)) ?v6_11_15 (by rfl) (by kernel_rfl) (by kernel_rfl) (by kernel_rfl) (fun _ _ _ h => h) (fun o ho w hS => ?y6_11_15) (by assumption) ?r6_11_15
      case y6_11_15 => (try dsimp only at hS); unfold execOp; simp only [ho]; go_simp; try with_reducible rfl
      try simp only [Act.put, List.setIfInBounds_toArray, List.set_cons_zero, List.set_cons_succ]
      refine held_load_at 4 (some 39) 39 (.tmp 38) (by rfl) (by kernel_rfl) (by kernel_rfl) (by kernel_rfl) (ad.add (k * 4)) [.int .i64 run, .int .i64 byy, .int .i64 att, .int .i64 fnd] (fun _ _ _ h => h) (by rfl) (fun _ h => h.1) _ Try.underlying39 rfl (by kernel_rfl) (by assumption) ?_
      try simp only [Act.put, List.setIfInBounds_toArray, List.set_cons_zero, List.set_cons_succ]
      refine held_run 5 (some 40) (.fieldAddr 30 (.tmp 3) 1) ?v6_11_17 (by rfl) (by kernel_rfl) (by kernel_rfl) (by kernel_rfl) (fun _ _ _ h => h) (fun o ho w hS => ?y6_11_17) (by assumption) ?r6_11_17
      case y6_11_17 => (try dsimp only at hS); unfold execOp; simp only [ho]; go_simp; try with_reducible rfl
      try simp only [Act.put, List.setIfInBounds_toArray, List.set_cons_zero, List.set_cons_succ]
      refine held_run 6 (some 41) (.load 28 (.tmp 40)) ?v6_11_18 (by rfl) (by kernel_rfl) (by kernel_rfl) (by kernel_rfl) (fun _ _ _ h => h) (fun o ho w hS => ?y6_11_18) (by assumption) ?r6_11_18
      case y6_11_18 => (try dsimp only at hS); unfold execOp; simp only [ho]; go_simp; try with_reducible rfl
      try simp only [Act.put, List.setIfInBounds_toArray, List.set_cons_zero, List.set_cons_succ]
      refine held_run 7 (some 42) (.move (.tmp 5)) ?v6_11_19 (by rfl) (by kernel_rfl) (by kernel_rfl) (by kernel_rfl) (fun _ _ _ h => h) (fun o ho w hS => ?y6_11_19) (by assumption) ?r6_11_19
      case y6_11_19 => (try dsimp only at hS); unfold execOp; simp only [ho]; go_simp; try with_reducible rfl
      try simp only [Act.put, List.setIfInBounds_toArray, List.set_cons_zero, List.set_cons_succ]
      refine held_run 8 (some 43) (.indexAddr 28 (.tmp 41) (.tmp 42)) ?v6_11_20 (by rfl) (by kernel_rfl) (by kernel_rfl) (by kernel_rfl) (fun _ _ _ h => h) (fun o ho w hS => ?y6_11_20) (by assumption) ?r6_11_20
      case y6_11_20 => (try dsimp only at hS); unfold execOp; simp only [ho]; go_simp; try with_reducible rfl
      try simp only [Act.put, List.setIfInBounds_toArray, List.set_cons_zero, List.set_cons_succ]
      refine held_load_at 9 (some 44) 39 (.tmp 43) (by rfl) (by kernel_rfl) (by kernel_rfl) (by kernel_rfl) (ad'.add (k * 4)) [.int .i64 run, .int .i64 byy, .int .i64 att, .int .i64 fnd] (fun _ _ _ h => h) (by rfl) (fun _ h => h.2.1) _ Try.underlying39 rfl (by kernel_rfl) (by assumption) ?_
      try simp only [Act.put, List.setIfInBounds_toArray, List.set_cons_zero, List.set_cons_succ]
      refine held_run 10 (some 45) (.binOp .neq 39 (.tmp 39) (.tmp 44) 39) ?v6_11_22 (by rfl) (by kernel_rfl) (by kernel_rfl) (by kernel_rfl) (fun _ _ _ h => h) (fun o ho w hS => ?y6_11_22) (by assumption) ?r6_11_22
      case y6_11_22 => (try dsimp only at hS); unfold execOp; simp only [ho]; go_simp; try with_reducible rfl
      try simp only [Act.put, List.setIfInBounds_toArray, List.set_cons_zero, List.set_cons_succ]
      refine wpAnyH_done (by kernel_rfl) ?_ _
      clear hd0 hd1
      go_wp2_with fail
      go_roundw
      case rel => exact ⟨k + 1, by omega, by go_num, HQ.out.drew⟩
      case measure => simp [intOf]; omega
    · obtain rfl : k = n' := by omega
      go_wp2_with fail
      go_ret
      exact ⟨rfl, HWo.out⟩
end Go.Proofs.Yticoeibccdplaaa
