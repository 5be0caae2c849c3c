/-
  swept, free, least, out and next of the reference of chapter 56, walked.
-/
import Derived.Test.YticoeibccdplaaaSwpC
namespace Go.Proofs.Yticoeibccdplaaa
open Go.RowKit

theorem run_at (sw : List Sw) (k : Nat) (h : k < sw.length) : (sw.map Sw.run).getD k 0 = (sw.getD k sw0).run := by simp [List.getElem?_eq_getElem h]
set_option maxRecDepth 100000 in
set_option maxHeartbeats 4000000 in
theorem rswept_any (v2 : Value) (B : Nat) (sw : List Sw) (x : Int) (b : Bool) (w : World) (hr : StrV Sw.cells 4 w B v2 sw) (hb : (sw.map Sw.run).contains x = b) :
    Calls Try.prog 46 #[v2, .int .i64 x] w fun e w' => e = .returned (.bool b) ∧ w = w' := by
  obtain ⟨A, n, c, rfl, HL, h3, h4, hr⟩ := hr.nam
  have HR := Lib.hid hr
  have hn : n ≤ maxLen := Nat.le_trans h3 h4
  unfold maxLen at hn
  have HB : Hid (decide (0 ≤ indI (sw.map Sw.run) x) = b) := hide (by rw [← hb]; exact (contains_ind _ x 0).symm)
  have HLm : Hid ((sw.map Sw.run).length = n) := hide (by rw [List.length_map]; exact HL.out)
  clear hr hb h3 h4
  obtain ⟨r, hr⟩ : ∃ r, indI (sw.map Sw.run) x = r := ⟨_, rfl⟩
  rw [hr] at HB
  have HF0 := Lib.hid hr
  clear hr
  go_enter Try.func46, Try.ntmps46
  go_wp2_with fail
  go_loop [5] (fun i => ∃ k : Nat, k ≤ n ∧ i = .int .i64 k ∧ r = idxF (fun y => y == x) ((sw.map Sw.run).drop k) k) (fun i => n - (intOf i).toNat)
  case atStart => exact ⟨0, by omega, rfl, HF0.out.symm⟩
  case round =>
    obtain ⟨k, hk, rfl, hno⟩ := hrel
    have HNo := Lib.hid hno
    clear hno
    by_cases hlt : k < n
    · obtain ⟨ad, rfl, _, hcs⟩ := strs_at HR.out (fun _ => rfl) HL.out hlt sw0
      have HY : Hid (((sw.getD k sw0).run == x) = true → r = (k : Int)) := fun h => HNo.out.trans (idxF_yes (by rw [HLm.out]; exact hlt) (by rw [run_at sw k (by rw [HL.out]; exact hlt)]; exact h))
      have HN : Hid (((sw.getD k sw0).run == x) = false → r = idxF (fun y => y == x) ((sw.map Sw.run).drop (k + 1)) (k + 1)) := fun h => HNo.out.trans (idxF_no (by rw [HLm.out]; exact hlt) (by rw [run_at sw k (by rw [HL.out]; exact hlt)]; exact h))
      generalize sw.getD k sw0 = q at *
      obtain ⟨run, byy, att, fnd⟩ := q
      have f0 : w.cell? (ad.add (k * 4)) = some (.int .i64 run) := by
        have h := hcs 0 _ rfl
        rwa [show (ad.add (k * 4)).add 0 = ad.add (k * 4) by unfold Addr.add; simp] at h
      clear hcs
      cases hxy : (run == x) with
      | true =>
        have HF : Hid (b = true) := hide (by rw [← HB.out, HY.out hxy]; exact decide_eq_true (by omega))
        go_wp2_with fail
        go_ret
        exact ⟨ret_b HF.out.symm, rfl⟩
      | false =>
        have HF := Lib.hid (HN.out hxy)
        go_wp2_with fail
        go_round
        case rel => exact ⟨k + 1, by omega, by go_num, HF.out⟩
        case measure => simp [intOf]; omega
    · obtain rfl : k = n := by omega
      have HF : Hid (b = false) := by have h := HNo.out; rw [List.drop_of_length_le (by rw [HLm.out]; exact Nat.le_refl _)] at h; exact hide (by rw [← HB.out, h]; rfl)
      go_wp2_with fail
      go_ret
      exact ⟨ret_b HF.out.symm, rfl⟩

set_option maxRecDepth 100000 in
set_option maxHeartbeats 4000000 in
theorem rfree_any (vn vl vr vb v1 v2 : Value) (rs : List Rn) (runs : List Int) (sw : List Sw) (run : Int) (w : World) (hm : StrV Rn.cells 7 w w.heap.size vr rs) (hr : RowV w w.heap.size v1 runs) (hd : StrV Sw.cells 4 w w.heap.size v2 sw) :
    Calls Try.prog 47 #[.agg #[vn, vl, vr, vb], v1, v2, .int .i64 run] w fun e w' => e = .returned (.bool (possB (befR rs) runs (sw.map Sw.run) run)) ∧ Below w.heap.size w w' := by
  obtain ⟨A, n, c, rfl, HL, h3, h4, hr⟩ := hr.nam
  have HR := Lib.hid hr
  have HD := Lib.hid hd
  have HM := Lib.hid hm
  have hn : n ≤ maxLen := Nat.le_trans h3 h4
  unfold maxLen at hn
  have HC : Hid (∀ (x : Int) (W : World), StrV Rn.cells 7 W W.heap.size vr rs → Calls Try.prog 70 #[.agg #[vn, vl, vr, vb], .int .i64 x, .int .i64 run] W fun e w' => e = .returned (.bool (befR rs x run)) ∧ Below W.heap.size W w') := fun x W q1 => rbefore_any vn vl vr vb rs x run W q1
  have HCs : Hid (∀ (x : Int) (b : Bool) (W : World), StrV Sw.cells 4 W W.heap.size v2 sw → (sw.map Sw.run).contains x = b → Calls Try.prog 46 #[v2, .int .i64 x] W fun e w' => e = .returned (.bool b) ∧ W = w') := fun x b W q1 q2 => rswept_any v2 _ sw x b W q1 q2
  clear hm hr hd h3 h4
  unfold possB
  generalize befR rs = bef at *
  generalize hdone : sw.map Sw.run = done at *
  clear hdone
  obtain ⟨g, hg⟩ : ∃ g : Int → Bool, g = fun x => !(bef x run && !done.contains x) := ⟨_, rfl⟩
  rw [← hg]
  have HG : Hid (∀ x, g x = !(bef x run && !done.contains x)) := fun x => by rw [hg]
  clear hg
  obtain ⟨r, hr⟩ : ∃ r, runs.all g = r := ⟨_, rfl⟩
  rw [hr]
  have HF0 := Lib.hid hr
  clear hr
  go_enter Try.func47, Try.ntmps47
  go_wp2_with fail
  have HBwb := (Blk.new w 27 #[vn, vl, vr, vb])
  have HLwb := (below_new w (.cells #[vn, vl, vr, vb] 27))
  have hswb : (w.alloc (.cells #[vn, vl, vr, vb] 27)).heap.size = w.heap.size + 1 := by simp
  generalize w.alloc (.cells #[vn, vl, vr, vb] 27) = wb at HBwb HLwb hswb ⊢
  replace HBwb := Lib.hid HBwb
  replace HLwb := Lib.hid HLwb
  have hlwb : w.heap.size < wb.heap.size := by omega
  replace hswb := Lib.hid hswb
  have HWb := Lib.hid (HLwb.out)
  have hl0 : w.heap.size ≤ wb.heap.size := HWb.out.size
  have HBb : Hid (Below wb.heap.size wb wb) := hide (Below.refl _ _)
  have hszb : wb.heap.size ≤ wb.heap.size := Nat.le_refl _
  have HX0b : Hid (Blk wb w.heap.size 27 #[vn, vl, vr, vb]) := hide HBwb.out
  have hx0 : w.heap.size < wb.heap.size := HX0b.out.lt
  clear HBwb HLwb hswb hlwb
  have HMb := Lib.hid (HM.out.now HWb.out)
  have HRb := Lib.hid (HR.out.now HWb.out)
  have HDb := Lib.hid (HD.out.now HWb.out)
  go_loopw [9] (fun v wr => ∃ k : Nat, k ≤ n ∧ v = .int .i64 k ∧ r = (runs.drop k).all g ∧ Below wb.heap.size wb wr) (fun v _ => n - (intOf v).toNat)
  case atStart => exact ⟨0, by omega, rfl, HF0.out.symm, Below.refl _ _⟩
  case round =>
    obtain ⟨k, hk, rfl, hF, hbr⟩ := hrel
    have HF := Lib.hid hF
    clear hF
    obtain ⟨wo, rfl⟩ : ∃ wo : World, wo = wr := ⟨_, rfl⟩
    have HBo := Lib.hid (HBb.out.trans (hbr.mono hszb))
    have HWo := Lib.hid (HWb.out.trans (hbr.mono HWb.out.size))
    have hszo : wb.heap.size ≤ wo.heap.size := Nat.le_trans hszb hbr.size
    have HX0o := Lib.hid (HX0b.out.below hbr (Nat.lt_of_lt_of_le hx0 hszb))
    have HMo := Lib.hid (HMb.out.now hbr)
    have HRo := Lib.hid (HRb.out.now hbr)
    have HDo := Lib.hid (HDb.out.now hbr)
    clear hbr
    by_cases hlt : k < n
    · obtain ⟨ad, rfl, hab, hc⟩ := HRo.out.int hlt
      have HS := Lib.hid (HF.out.trans (all_at g runs k (by rw [HL.out]; exact hlt)))
      generalize runs.getD k 0 = x at *
      have HGx := Lib.hid (HG.out x)
      have HX := HX0o.out
      have HMod : Hid (StrV Rn.cells 7 wo.drew wo.drew.heap.size vr rs) := hide HMo.out
      cases hq : bef x run with
      | false =>
        have HF1 : Hid (r = (runs.drop (k + 1)).all g) := hide (HS.out.trans (by rw [HGx.out, hq]; rfl))
        have HCx := Lib.hid (HC.out x)
        rw [hq] at HCx
        go_wp2_with fail
        refine wp_region_held_drew (S := fun W => W.cell? (ad.add k) = some (.int .i64 x) ∧ Blk W w.heap.size 27 #[vn, vl, vr, vb]) (by kernel_rfl) (⟨hc, HX⟩) (fun hHeld => ?_)
        refine held_load 0 (some 16) 27 (.tmp 4) (by rfl) (by kernel_rfl) (by kernel_rfl) (by kernel_rfl) (w.heap.size) 27 #[vn, vl, vr, vb] (fun _ _ _ h => h) (by rfl) (fun _ h => h.2) _ Try.underlying27 rfl (by kernel_rfl) (by assumption) ?_
        try simp only [Act.put, List.setIfInBounds_toArray, List.set_cons_zero, List.set_cons_succ]
        refine held_run 1 (some 17) (.move (.tmp 1)) ?v4_1_3 (by rfl) (by kernel_rfl) (by kernel_rfl) (by kernel_rfl) (fun _ _ _ h => h) (fun o ho w hS => ?y4_1_3) (by assumption) ?r4_1_3
        case y4_1_3 => (try dsimp only at hS); unfold execOp; simp only [ho]; go_simp; try with_reducible rfl
        try simp only [Act.put, List.setIfInBounds_toArray, List.set_cons_zero, List.set_cons_succ]
        refine held_run 2 (some 18) (.move (.tmp 9)) ?v4_1_4 (by rfl) (by kernel_rfl) (by kernel_rfl) (by kernel_rfl) (fun _ _ _ h => h) (fun o ho w hS => ?y4_1_4) (by assumption) ?r4_1_4
        case y4_1_4 => (try dsimp only at hS); unfold execOp; simp only [ho]; go_simp; try with_reducible rfl
        try simp only [Act.put, List.setIfInBounds_toArray, List.set_cons_zero, List.set_cons_succ]
        refine held_run 3 (some 19) (.indexAddr 25 (.tmp 17) (.tmp 18)) ?v4_1_5 (by rfl) (by kernel_rfl) (by kernel_rfl) (by kernel_rfl) (fun _ _ _ h => h) (fun o ho w hS => ?y4_1_5) (by assumption) ?r4_1_5
        case y4_1_5 => (try dsimp only at hS); unfold execOp; simp only [ho]; go_simp; try with_reducible rfl
        try simp only [Act.put, List.setIfInBounds_toArray, List.set_cons_zero, List.set_cons_succ]
        refine held_run 4 (some 20) (.load 3 (.tmp 19)) ?v4_1_6 (by rfl) (by kernel_rfl) (by kernel_rfl) (by kernel_rfl) (fun _ _ _ h => h) (fun o ho w hS => ?y4_1_6) (by assumption) ?r4_1_6
        case y4_1_6 => (try dsimp only at hS); unfold execOp; simp only [ho]; go_simp; try with_reducible rfl
        try simp only [Act.put, List.setIfInBounds_toArray, List.set_cons_zero, List.set_cons_succ]
        refine held_run 5 (some 21) (.move (.tmp 3)) ?v4_1_7 (by rfl) (by kernel_rfl) (by kernel_rfl) (by kernel_rfl) (fun _ _ _ h => h) (fun o ho w hS => ?y4_1_7) (by assumption) ?r4_1_7
        case y4_1_7 => (try dsimp only at hS); unfold execOp; simp only [ho]; go_simp; try with_reducible rfl
        try simp only [Act.put, List.setIfInBounds_toArray, List.set_cons_zero, List.set_cons_succ]
        refine held_call 6 (some 22) 70 [(.tmp 16), (.tmp 20), (.tmp 21)] #[27, 3, 3] #[.agg #[vn, vl, vr, vb], .int .i64 x, .int .i64 run] (by rfl) (by rfl) (by kernel_rfl) Try.func70 (by rfl) (by rfl) ?_
        refine (HCx.out _ HMod.out).mono ?_
        rintro e w1 ⟨rfl, hb1⟩
        have hbb1 : Below wo.heap.size wo w1 := (Below.refl wo.heap.size wo).drew.trans hb1
        have HB1 := Lib.hid (HBo.out.trans (hbb1.mono hszo))
        have HW1 := Lib.hid (HWo.out.trans (hbb1.mono HWo.out.size))
        have hsz1 : wb.heap.size ≤ w1.heap.size := Nat.le_trans hszo hbb1.size
        have HX01 := Lib.hid (HX0o.out.below hbb1 (Nat.lt_of_lt_of_le hx0 hszo))
        have HM1 := Lib.hid (HMo.out.now hbb1)
        have HR1 := Lib.hid (HRo.out.now hbb1)
        have HD1 := Lib.hid (HDo.out.now hbb1)
        have hH1 : (fun W => W.cell? (ad.add k) = some (.int .i64 x) ∧ Blk W w.heap.size 27 #[vn, vl, vr, vb]) w1 := ⟨(hbb1.cell (by rw [block_of_add]; exact hab)).trans hc, HX01.out⟩
        refine ⟨_, rfl, hH1, ?_⟩
        clear hb1 hbb1
        try simp only [Act.put, List.setIfInBounds_toArray, List.set_cons_zero, List.set_cons_succ]
        refine held_run 7 (some 23) (.move (.tmp 22)) ?v4_1_9 (by rfl) (by kernel_rfl) (by kernel_rfl) (by kernel_rfl) (fun _ _ _ h => h) (fun o ho w hS => ?y4_1_9) (by assumption) ?r4_1_9
        case y4_1_9 => (try dsimp only at hS); unfold execOp; simp only [ho]; go_simp; try with_reducible rfl
        try simp only [Act.put, List.setIfInBounds_toArray, List.set_cons_zero, List.set_cons_succ]
        refine held_skip 8 (some 24) (by rfl) (by kernel_rfl) (by kernel_rfl) (by kernel_rfl) (fun _ _ _ h => h) (by assumption) ?_
        try simp only [Act.put, List.setIfInBounds_toArray, List.set_cons_zero, List.set_cons_succ]
        refine held_skip 9 (some 25) (by rfl) (by kernel_rfl) (by kernel_rfl) (by kernel_rfl) (fun _ _ _ h => h) (by assumption) ?_
        try simp only [Act.put, List.setIfInBounds_toArray, List.set_cons_zero, List.set_cons_succ]
        refine held_skip 10 (some 26) (by rfl) (by kernel_rfl) (by kernel_rfl) (by kernel_rfl) (fun _ _ _ h => h) (by assumption) ?_
        try simp only [Act.put, List.setIfInBounds_toArray, List.set_cons_zero, List.set_cons_succ]
        refine held_skip 11 (some 27) (by rfl) (by kernel_rfl) (by kernel_rfl) (by kernel_rfl) (fun _ _ _ h => h) (by assumption) ?_
        try simp only [Act.put, List.setIfInBounds_toArray, List.set_cons_zero, List.set_cons_succ]
        refine held_skip 12 (some 28) (by rfl) (by kernel_rfl) (by kernel_rfl) (by kernel_rfl) (fun _ _ _ h => h) (by assumption) ?_
        try simp only [Act.put, List.setIfInBounds_toArray, List.set_cons_zero, List.set_cons_succ]
        refine held_skip 13 (some 29) (by rfl) (by kernel_rfl) (by kernel_rfl) (by kernel_rfl) (fun _ _ _ h => h) (by assumption) ?_
        try simp only [Act.put, List.setIfInBounds_toArray, List.set_cons_zero, List.set_cons_succ]
        refine held_skip 14 (some 30) (by rfl) (by kernel_rfl) (by kernel_rfl) (by kernel_rfl) (fun _ _ _ h => h) (by assumption) ?_
        try simp only [Act.put, List.setIfInBounds_toArray, List.set_cons_zero, List.set_cons_succ]
        refine held_run 15 (some 31) (.pick (.tmp 23) (.tmp 30) (.const (Value.bool false))) ?v4_1_17 (by rfl) (by kernel_rfl) (by kernel_rfl) (by kernel_rfl) (fun _ _ _ h => h) (fun o ho w hS => ?y4_1_17) (by assumption) ?r4_1_17
        case y4_1_17 => (try dsimp only at hS); unfold execOp; simp only [ho]; go_simp; try with_reducible rfl
        try simp only [Act.put, List.setIfInBounds_toArray, List.set_cons_zero, List.set_cons_succ]
        refine wpAnyH_done (by kernel_rfl) ?_ _
        go_wp2_with fail
        go_roundw
        case rel => exact ⟨k + 1, by omega, by go_num, HF1.out, HB1.out⟩
        case measure => simp [intOf]; omega
      | true =>
        have HCx := Lib.hid (HC.out x)
        rw [hq] at HCx
        cases hd : done.contains x with
        | true =>
          have HF1 : Hid (r = (runs.drop (k + 1)).all g) := hide (HS.out.trans (by rw [HGx.out, hq, hd]; rfl))
          go_wp2_with fail
          refine wp_region_held_drew (S := fun W => W.cell? (ad.add k) = some (.int .i64 x) ∧ Blk W w.heap.size 27 #[vn, vl, vr, vb]) (by kernel_rfl) (⟨hc, HX⟩) (fun hHeld => ?_)
          refine held_load 0 (some 16) 27 (.tmp 4) (by rfl) (by kernel_rfl) (by kernel_rfl) (by kernel_rfl) (w.heap.size) 27 #[vn, vl, vr, vb] (fun _ _ _ h => h) (by rfl) (fun _ h => h.2) _ Try.underlying27 rfl (by kernel_rfl) (by assumption) ?_
          try simp only [Act.put, List.setIfInBounds_toArray, List.set_cons_zero, List.set_cons_succ]
          refine held_run 1 (some 17) (.move (.tmp 1)) ?v4_18_20 (by rfl) (by kernel_rfl) (by kernel_rfl) (by kernel_rfl) (fun _ _ _ h => h) (fun o ho w hS => ?y4_18_20) (by assumption) ?r4_18_20
          case y4_18_20 => (try dsimp only at hS); unfold execOp; simp only [ho]; go_simp; try with_reducible rfl
          try simp only [Act.put, List.setIfInBounds_toArray, List.set_cons_zero, List.set_cons_succ]
          refine held_run 2 (some 18) (.move (.tmp 9)) ?v4_18_21 (by rfl) (by kernel_rfl) (by kernel_rfl) (by kernel_rfl) (fun _ _ _ h => h) (fun o ho w hS => ?y4_18_21) (by assumption) ?r4_18_21
          case y4_18_21 => (try dsimp only at hS); unfold execOp; simp only [ho]; go_simp; try with_reducible rfl
          try simp only [Act.put, List.setIfInBounds_toArray, List.set_cons_zero, List.set_cons_succ]
          refine held_run 3 (some 19) (.indexAddr 25 (.tmp 17) (.tmp 18)) ?v4_18_22 (by rfl) (by kernel_rfl) (by kernel_rfl) (by kernel_rfl) (fun _ _ _ h => h) (fun o ho w hS => ?y4_18_22) (by assumption) ?r4_18_22
          case y4_18_22 => (try dsimp only at hS); unfold execOp; simp only [ho]; go_simp; try with_reducible rfl
          try simp only [Act.put, List.setIfInBounds_toArray, List.set_cons_zero, List.set_cons_succ]
          refine held_run 4 (some 20) (.load 3 (.tmp 19)) ?v4_18_23 (by rfl) (by kernel_rfl) (by kernel_rfl) (by kernel_rfl) (fun _ _ _ h => h) (fun o ho w hS => ?y4_18_23) (by assumption) ?r4_18_23
          case y4_18_23 => (try dsimp only at hS); unfold execOp; simp only [ho]; go_simp; try with_reducible rfl
          try simp only [Act.put, List.setIfInBounds_toArray, List.set_cons_zero, List.set_cons_succ]
          refine held_run 5 (some 21) (.move (.tmp 3)) ?v4_18_24 (by rfl) (by kernel_rfl) (by kernel_rfl) (by kernel_rfl) (fun _ _ _ h => h) (fun o ho w hS => ?y4_18_24) (by assumption) ?r4_18_24
          case y4_18_24 => (try dsimp only at hS); unfold execOp; simp only [ho]; go_simp; try with_reducible rfl
          try simp only [Act.put, List.setIfInBounds_toArray, List.set_cons_zero, List.set_cons_succ]
          refine held_call 6 (some 22) 70 [(.tmp 16), (.tmp 20), (.tmp 21)] #[27, 3, 3] #[.agg #[vn, vl, vr, vb], .int .i64 x, .int .i64 run] (by rfl) (by rfl) (by kernel_rfl) Try.func70 (by rfl) (by rfl) ?_
          refine (HCx.out _ HMod.out).mono ?_
          rintro e w1 ⟨rfl, hb1⟩
          have hbb1 : Below wo.heap.size wo w1 := (Below.refl wo.heap.size wo).drew.trans hb1
          have HB1 := Lib.hid (HBo.out.trans (hbb1.mono hszo))
          have HW1 := Lib.hid (HWo.out.trans (hbb1.mono HWo.out.size))
          have hsz1 : wb.heap.size ≤ w1.heap.size := Nat.le_trans hszo hbb1.size
          have HX01 := Lib.hid (HX0o.out.below hbb1 (Nat.lt_of_lt_of_le hx0 hszo))
          have HM1 := Lib.hid (HMo.out.now hbb1)
          have HR1 := Lib.hid (HRo.out.now hbb1)
          have HD1 := Lib.hid (HDo.out.now hbb1)
          have hH1 : (fun W => W.cell? (ad.add k) = some (.int .i64 x) ∧ Blk W w.heap.size 27 #[vn, vl, vr, vb]) w1 := ⟨(hbb1.cell (by rw [block_of_add]; exact hab)).trans hc, HX01.out⟩
          refine ⟨_, rfl, hH1, ?_⟩
          clear hb1 hbb1
          try simp only [Act.put, List.setIfInBounds_toArray, List.set_cons_zero, List.set_cons_succ]
          refine held_run 7 (some 23) (.move (.tmp 22)) ?v4_18_26 (by rfl) (by kernel_rfl) (by kernel_rfl) (by kernel_rfl) (fun _ _ _ h => h) (fun o ho w hS => ?y4_18_26) (by assumption) ?r4_18_26
          case y4_18_26 => (try dsimp only at hS); unfold execOp; simp only [ho]; go_simp; try with_reducible rfl
          try simp only [Act.put, List.setIfInBounds_toArray, List.set_cons_zero, List.set_cons_succ]
          refine held_run 8 (some 24) (.move (.tmp 2)) ?v4_18_27 (by rfl) (by kernel_rfl) (by kernel_rfl) (by kernel_rfl) (fun _ _ _ h => h) (fun o ho w hS => ?y4_18_27) (by assumption) ?r4_18_27
          case y4_18_27 => (try dsimp only at hS); unfold execOp; simp only [ho]; go_simp; try with_reducible rfl
          try simp only [Act.put, List.setIfInBounds_toArray, List.set_cons_zero, List.set_cons_succ]
          refine held_run 9 (some 25) (.move (.tmp 1)) ?v4_18_28 (by rfl) (by kernel_rfl) (by kernel_rfl) (by kernel_rfl) (fun _ _ _ h => h) (fun o ho w hS => ?y4_18_28) (by assumption) ?r4_18_28
          case y4_18_28 => (try dsimp only at hS); unfold execOp; simp only [ho]; go_simp; try with_reducible rfl
          try simp only [Act.put, List.setIfInBounds_toArray, List.set_cons_zero, List.set_cons_succ]
          refine held_run 10 (some 26) (.move (.tmp 9)) ?v4_18_29 (by rfl) (by kernel_rfl) (by kernel_rfl) (by kernel_rfl) (fun _ _ _ h => h) (fun o ho w hS => ?y4_18_29) (by assumption) ?r4_18_29
          case y4_18_29 => (try dsimp only at hS); unfold execOp; simp only [ho]; go_simp; try with_reducible rfl
          try simp only [Act.put, List.setIfInBounds_toArray, List.set_cons_zero, List.set_cons_succ]
          refine held_run 11 (some 27) (.indexAddr 25 (.tmp 25) (.tmp 26)) ?v4_18_30 (by rfl) (by kernel_rfl) (by kernel_rfl) (by kernel_rfl) (fun _ _ _ h => h) (fun o ho w hS => ?y4_18_30) (by assumption) ?r4_18_30
          case y4_18_30 => (try dsimp only at hS); unfold execOp; simp only [ho]; go_simp; try with_reducible rfl
          try simp only [Act.put, List.setIfInBounds_toArray, List.set_cons_zero, List.set_cons_succ]
          refine held_run 12 (some 28) (.load 3 (.tmp 27)) ?v4_18_31 (by rfl) (by kernel_rfl) (by kernel_rfl) (by kernel_rfl) (fun _ _ _ h => h) (fun o ho w hS => ?y4_18_31) (by assumption) ?r4_18_31
          case y4_18_31 => (try dsimp only at hS); unfold execOp; simp only [ho]; go_simp; try with_reducible rfl
          try simp only [Act.put, List.setIfInBounds_toArray, List.set_cons_zero, List.set_cons_succ]
          refine held_call 13 (some 29) 46 [(.tmp 24), (.tmp 28)] #[28, 3] #[v2, .int .i64 x] (by rfl) (by rfl) (by kernel_rfl) Try.func46 (by rfl) (by rfl) ?_
          refine (HCs.out x true _ HD1.out hd).mono ?_
          rintro e w' ⟨rfl, rfl⟩
          refine ⟨_, rfl, hH1, ?_⟩
          try simp only [Act.put, List.setIfInBounds_toArray, List.set_cons_zero, List.set_cons_succ]
          refine held_run 14 (some 30) (.unOp .not 4 (.tmp 29)) ?v4_18_33 (by rfl) (by kernel_rfl) (by kernel_rfl) (by kernel_rfl) (fun _ _ _ h => h) (fun o ho w hS => ?y4_18_33) (by assumption) ?r4_18_33
          case y4_18_33 => (try dsimp only at hS); unfold execOp; simp only [ho]; go_simp; try with_reducible rfl
          try simp only [Act.put, List.setIfInBounds_toArray, List.set_cons_zero, List.set_cons_succ]
          refine held_run 15 (some 31) (.pick (.tmp 23) (.tmp 30) (.const (Value.bool false))) ?v4_18_34 (by rfl) (by kernel_rfl) (by kernel_rfl) (by kernel_rfl) (fun _ _ _ h => h) (fun o ho w hS => ?y4_18_34) (by assumption) ?r4_18_34
          case y4_18_34 => (try dsimp only at hS); unfold execOp; simp only [ho]; go_simp; try with_reducible rfl
          try simp only [Act.put, List.setIfInBounds_toArray, List.set_cons_zero, List.set_cons_succ]
          refine wpAnyH_done (by kernel_rfl) ?_ _
          go_wp2_with fail
          go_roundw
          case rel => exact ⟨k + 1, by omega, by go_num, HF1.out, HB1.out⟩
          case measure => simp [intOf]; omega
        | false =>
          have HF1 : Hid (r = false) := hide (HS.out.trans (by rw [HGx.out, hq, hd]; rfl))
          go_wp2_with fail
          refine wp_region_held_drew (S := fun W => W.cell? (ad.add k) = some (.int .i64 x) ∧ Blk W w.heap.size 27 #[vn, vl, vr, vb]) (by kernel_rfl) (⟨hc, HX⟩) (fun hHeld => ?_)
          refine held_load 0 (some 16) 27 (.tmp 4) (by rfl) (by kernel_rfl) (by kernel_rfl) (by kernel_rfl) (w.heap.size) 27 #[vn, vl, vr, vb] (fun _ _ _ h => h) (by rfl) (fun _ h => h.2) _ Try.underlying27 rfl (by kernel_rfl) (by assumption) ?_
          try simp only [Act.put, List.setIfInBounds_toArray, List.set_cons_zero, List.set_cons_succ]
          refine held_run 1 (some 17) (.move (.tmp 1)) ?v4_35_37 (by rfl) (by kernel_rfl) (by kernel_rfl) (by kernel_rfl) (fun _ _ _ h => h) (fun o ho w hS => ?y4_35_37) (by assumption) ?r4_35_37
          case y4_35_37 => (try dsimp only at hS); unfold execOp; simp only [ho]; go_simp; try with_reducible rfl
          try simp only [Act.put, List.setIfInBounds_toArray, List.set_cons_zero, List.set_cons_succ]
          refine held_run 2 (some 18) (.move (.tmp 9)) ?v4_35_38 (by rfl) (by kernel_rfl) (by kernel_rfl) (by kernel_rfl) (fun _ _ _ h => h) (fun o ho w hS => ?y4_35_38) (by assumption) ?r4_35_38
          case y4_35_38 => (try dsimp only at hS); unfold execOp; simp only [ho]; go_simp; try with_reducible rfl
          try simp only [Act.put, List.setIfInBounds_toArray, List.set_cons_zero, List.set_cons_succ]
          refine held_run 3 (some 19) (.indexAddr 25 (.tmp 17) (.tmp 18)) ?v4_35_39 (by rfl) (by kernel_rfl) (by kernel_rfl) (by kernel_rfl) (fun _ _ _ h => h) (fun o ho w hS => ?y4_35_39) (by assumption) ?r4_35_39
          case y4_35_39 => (try dsimp only at hS); unfold execOp; simp only [ho]; go_simp; try with_reducible rfl
          try simp only [Act.put, List.setIfInBounds_toArray, List.set_cons_zero, List.set_cons_succ]
          refine held_run 4 (some 20) (.load 3 (.tmp 19)) ?v4_35_40 (by rfl) (by kernel_rfl) (by kernel_rfl) (by kernel_rfl) (fun _ _ _ h => h) (fun o ho w hS => ?y4_35_40) (by assumption) ?r4_35_40
          case y4_35_40 => (try dsimp only at hS); unfold execOp; simp only [ho]; go_simp; try with_reducible rfl
          try simp only [Act.put, List.setIfInBounds_toArray, List.set_cons_zero, List.set_cons_succ]
          refine held_run 5 (some 21) (.move (.tmp 3)) ?v4_35_41 (by rfl) (by kernel_rfl) (by kernel_rfl) (by kernel_rfl) (fun _ _ _ h => h) (fun o ho w hS => ?y4_35_41) (by assumption) ?r4_35_41
          case y4_35_41 => (try dsimp only at hS); unfold execOp; simp only [ho]; go_simp; try with_reducible rfl
          try simp only [Act.put, List.setIfInBounds_toArray, List.set_cons_zero, List.set_cons_succ]
          refine held_call 6 (some 22) 70 [(.tmp 16), (.tmp 20), (.tmp 21)] #[27, 3, 3] #[.agg #[vn, vl, vr, vb], .int .i64 x, .int .i64 run] (by rfl) (by rfl) (by kernel_rfl) Try.func70 (by rfl) (by rfl) ?_
          refine (HCx.out _ HMod.out).mono ?_
          rintro e w1 ⟨rfl, hb1⟩
          have hbb1 : Below wo.heap.size wo w1 := (Below.refl wo.heap.size wo).drew.trans hb1
          have HB1 := Lib.hid (HBo.out.trans (hbb1.mono hszo))
          have HW1 := Lib.hid (HWo.out.trans (hbb1.mono HWo.out.size))
          have hsz1 : wb.heap.size ≤ w1.heap.size := Nat.le_trans hszo hbb1.size
          have HX01 := Lib.hid (HX0o.out.below hbb1 (Nat.lt_of_lt_of_le hx0 hszo))
          have HM1 := Lib.hid (HMo.out.now hbb1)
          have HR1 := Lib.hid (HRo.out.now hbb1)
          have HD1 := Lib.hid (HDo.out.now hbb1)
          have hH1 : (fun W => W.cell? (ad.add k) = some (.int .i64 x) ∧ Blk W w.heap.size 27 #[vn, vl, vr, vb]) w1 := ⟨(hbb1.cell (by rw [block_of_add]; exact hab)).trans hc, HX01.out⟩
          refine ⟨_, rfl, hH1, ?_⟩
          clear hb1 hbb1
          try simp only [Act.put, List.setIfInBounds_toArray, List.set_cons_zero, List.set_cons_succ]
          refine held_run 7 (some 23) (.move (.tmp 22)) ?v4_35_43 (by rfl) (by kernel_rfl) (by kernel_rfl) (by kernel_rfl) (fun _ _ _ h => h) (fun o ho w hS => ?y4_35_43) (by assumption) ?r4_35_43
          case y4_35_43 => (try dsimp only at hS); unfold execOp; simp only [ho]; go_simp; try with_reducible rfl
          try simp only [Act.put, List.setIfInBounds_toArray, List.set_cons_zero, List.set_cons_succ]
          refine held_run 8 (some 24) (.move (.tmp 2)) ?v4_35_44 (by rfl) (by kernel_rfl) (by kernel_rfl) (by kernel_rfl) (fun _ _ _ h => h) (fun o ho w hS => ?y4_35_44) (by assumption) ?r4_35_44
          case y4_35_44 => (try dsimp only at hS); unfold execOp; simp only [ho]; go_simp; try with_reducible rfl
          try simp only [Act.put, List.setIfInBounds_toArray, List.set_cons_zero, List.set_cons_succ]
          refine held_run 9 (some 25) (.move (.tmp 1)) ?v4_35_45 (by rfl) (by kernel_rfl) (by kernel_rfl) (by kernel_rfl) (fun _ _ _ h => h) (fun o ho w hS => ?y4_35_45) (by assumption) ?r4_35_45
          case y4_35_45 => (try dsimp only at hS); unfold execOp; simp only [ho]; go_simp; try with_reducible rfl
          try simp only [Act.put, List.setIfInBounds_toArray, List.set_cons_zero, List.set_cons_succ]
          refine held_run 10 (some 26) (.move (.tmp 9)) ?v4_35_46 (by rfl) (by kernel_rfl) (by kernel_rfl) (by kernel_rfl) (fun _ _ _ h => h) (fun o ho w hS => ?y4_35_46) (by assumption) ?r4_35_46
          case y4_35_46 => (try dsimp only at hS); unfold execOp; simp only [ho]; go_simp; try with_reducible rfl
          try simp only [Act.put, List.setIfInBounds_toArray, List.set_cons_zero, List.set_cons_succ]
          refine held_run 11 (some 27) (.indexAddr 25 (.tmp 25) (.tmp 26)) ?v4_35_47 (by rfl) (by kernel_rfl) (by kernel_rfl) (by kernel_rfl) (fun _ _ _ h => h) (fun o ho w hS => ?y4_35_47) (by assumption) ?r4_35_47
          case y4_35_47 => (try dsimp only at hS); unfold execOp; simp only [ho]; go_simp; try with_reducible rfl
          try simp only [Act.put, List.setIfInBounds_toArray, List.set_cons_zero, List.set_cons_succ]
          refine held_run 12 (some 28) (.load 3 (.tmp 27)) ?v4_35_48 (by rfl) (by kernel_rfl) (by kernel_rfl) (by kernel_rfl) (fun _ _ _ h => h) (fun o ho w hS => ?y4_35_48) (by assumption) ?r4_35_48
          case y4_35_48 => (try dsimp only at hS); unfold execOp; simp only [ho]; go_simp; try with_reducible rfl
          try simp only [Act.put, List.setIfInBounds_toArray, List.set_cons_zero, List.set_cons_succ]
          refine held_call 13 (some 29) 46 [(.tmp 24), (.tmp 28)] #[28, 3] #[v2, .int .i64 x] (by rfl) (by rfl) (by kernel_rfl) Try.func46 (by rfl) (by rfl) ?_
          refine (HCs.out x false _ HD1.out hd).mono ?_
          rintro e w' ⟨rfl, rfl⟩
          refine ⟨_, rfl, hH1, ?_⟩
          try simp only [Act.put, List.setIfInBounds_toArray, List.set_cons_zero, List.set_cons_succ]
          refine held_run 14 (some 30) (.unOp .not 4 (.tmp 29)) ?v4_35_50 (by rfl) (by kernel_rfl) (by kernel_rfl) (by kernel_rfl) (fun _ _ _ h => h) (fun o ho w hS => ?y4_35_50) (by assumption) ?r4_35_50
          case y4_35_50 => (try dsimp only at hS); unfold execOp; simp only [ho]; go_simp; try with_reducible rfl
          try simp only [Act.put, List.setIfInBounds_toArray, List.set_cons_zero, List.set_cons_succ]
          refine held_run 15 (some 31) (.pick (.tmp 23) (.tmp 30) (.const (Value.bool false))) ?v4_35_51 (by rfl) (by kernel_rfl) (by kernel_rfl) (by kernel_rfl) (fun _ _ _ h => h) (fun o ho w hS => ?y4_35_51) (by assumption) ?r4_35_51
          case y4_35_51 => (try dsimp only at hS); unfold execOp; simp only [ho]; go_simp; try with_reducible rfl
          try simp only [Act.put, List.setIfInBounds_toArray, List.set_cons_zero, List.set_cons_succ]
          refine wpAnyH_done (by kernel_rfl) ?_ _
          go_wp2_with fail
          go_ret
          exact ⟨ret_b HF1.out.symm, HW1.out⟩
    · obtain rfl : k = n := by omega
      have HF1 : Hid (r = true) := by have h := HF.out; rw [List.drop_of_length_le (by rw [HL.out]; exact Nat.le_refl _)] at h; exact hide h
      go_wp2_with fail
      go_ret
      exact ⟨ret_b HF1.out.symm, HWo.out⟩

set_option maxRecDepth 100000 in
set_option maxHeartbeats 4000000 in
theorem rleast_any (vn vl vr vb v1 : Value) (rs : List Rn) (runs : List Int) (run : Int) (w : World) (hm : StrV Rn.cells 7 w w.heap.size vr rs) (hr : RowV w w.heap.size v1 runs) :
    Calls Try.prog 69 #[.agg #[vn, vl, vr, vb], v1, .int .i64 run] w fun e w' => e = .returned (.int .i64 (lowI (befR rs) runs run)) ∧ Below w.heap.size w w' := by
  obtain ⟨A, n, c, rfl, HL, h3, h4, hr⟩ := hr.nam
  have HR := Lib.hid hr
  have HM := Lib.hid hm
  have hn : n ≤ maxLen := Nat.le_trans h3 h4
  unfold maxLen at hn
  have HC : Hid (∀ (x : Int) (W : World), StrV Rn.cells 7 W W.heap.size vr rs → Calls Try.prog 70 #[.agg #[vn, vl, vr, vb], .int .i64 run, .int .i64 x] W fun e w' => e = .returned (.bool (befR rs run x)) ∧ Below W.heap.size W w') := fun x W q1 => rbefore_any vn vl vr vb rs run x W q1
  clear hm hr h3 h4
  unfold lowI
  generalize befR rs run = f at *
  obtain ⟨r, hr⟩ : ∃ r, idxF f runs 0 = r := ⟨_, rfl⟩
  rw [hr]
  have HF0 := Lib.hid hr
  clear hr
  go_enter Try.func69, Try.ntmps69
  go_wp2_with fail
  have HBwb := (Blk.new w 27 #[vn, vl, vr, vb])
  have HLwb := (below_new w (.cells #[vn, vl, vr, vb] 27))
  have hswb : (w.alloc (.cells #[vn, vl, vr, vb] 27)).heap.size = w.heap.size + 1 := by simp
  generalize w.alloc (.cells #[vn, vl, vr, vb] 27) = wb at HBwb HLwb hswb ⊢
  replace HBwb := Lib.hid HBwb
  replace HLwb := Lib.hid HLwb
  have hlwb : w.heap.size < wb.heap.size := by omega
  replace hswb := Lib.hid hswb
  have HWb := Lib.hid (HLwb.out)
  have hl0 : w.heap.size ≤ wb.heap.size := HWb.out.size
  have HBb : Hid (Below wb.heap.size wb wb) := hide (Below.refl _ _)
  have hszb : wb.heap.size ≤ wb.heap.size := Nat.le_refl _
  have HX0b : Hid (Blk wb w.heap.size 27 #[vn, vl, vr, vb]) := hide HBwb.out
  have hx0 : w.heap.size < wb.heap.size := HX0b.out.lt
  clear HBwb HLwb hswb hlwb
  have HMb := Lib.hid (HM.out.now HWb.out)
  have HRb := Lib.hid (HR.out.now HWb.out)
  go_loopw [7] (fun v wr => ∃ k : Nat, k ≤ n ∧ v = .int .i64 k ∧ r = idxF f (runs.drop k) k ∧ Below wb.heap.size wb wr) (fun v _ => n - (intOf v).toNat)
  case atStart => exact ⟨0, by omega, rfl, HF0.out.symm, Below.refl _ _⟩
  case round =>
    obtain ⟨k, hk, rfl, hF, hbr⟩ := hrel
    have HF := Lib.hid hF
    clear hF
    obtain ⟨wo, rfl⟩ : ∃ wo : World, wo = wr := ⟨_, rfl⟩
    have HBo := Lib.hid (HBb.out.trans (hbr.mono hszb))
    have HWo := Lib.hid (HWb.out.trans (hbr.mono HWb.out.size))
    have hszo : wb.heap.size ≤ wo.heap.size := Nat.le_trans hszb hbr.size
    have HX0o := Lib.hid (HX0b.out.below hbr (Nat.lt_of_lt_of_le hx0 hszb))
    have HMo := Lib.hid (HMb.out.now hbr)
    have HRo := Lib.hid (HRb.out.now hbr)
    clear hbr
    by_cases hlt : k < n
    · obtain ⟨ad, rfl, hab, hc⟩ := HRo.out.int hlt
      have HYes : Hid (f (runs.getD k 0) = true → r = (k : Int)) := fun h => HF.out.trans (idxF_yes (by rw [HL.out]; exact hlt) h)
      have HNo : Hid (f (runs.getD k 0) = false → r = idxF f (runs.drop (k + 1)) (k + 1)) := fun h => HF.out.trans (idxF_no (by rw [HL.out]; exact hlt) h)
      generalize runs.getD k 0 = x at *
      have HX := HX0o.out
      have HMod : Hid (StrV Rn.cells 7 wo.drew wo.drew.heap.size vr rs) := hide HMo.out
      have HCx := Lib.hid (HC.out x)
      cases hq : f x with
      | true =>
        rw [hq] at HCx
        have HF1 := Lib.hid (HYes.out hq)
        go_wp2_with fail
        refine wp_region_held_drew (S := fun W => W.cell? (ad.add k) = some (.int .i64 x) ∧ Blk W w.heap.size 27 #[vn, vl, vr, vb]) (by kernel_rfl) (⟨hc, HX⟩) (fun hHeld => ?_)
        refine held_load 0 (some 14) 27 (.tmp 3) (by rfl) (by kernel_rfl) (by kernel_rfl) (by kernel_rfl) (w.heap.size) 27 #[vn, vl, vr, vb] (fun _ _ _ h => h) (by rfl) (fun _ h => h.2) _ Try.underlying27 rfl (by kernel_rfl) (by assumption) ?_
        try simp only [Act.put, List.setIfInBounds_toArray, List.set_cons_zero, List.set_cons_succ]
        refine held_run 1 (some 15) (.move (.tmp 2)) ?v4_52_54 (by rfl) (by kernel_rfl) (by kernel_rfl) (by kernel_rfl) (fun _ _ _ h => h) (fun o ho w hS => ?y4_52_54) (by assumption) ?r4_52_54
        case y4_52_54 => (try dsimp only at hS); unfold execOp; simp only [ho]; go_simp; try with_reducible rfl
        try simp only [Act.put, List.setIfInBounds_toArray, List.set_cons_zero, List.set_cons_succ]
        refine held_run 2 (some 16) (.move (.tmp 1)) ?v4_52_55 (by rfl) (by kernel_rfl) (by kernel_rfl) (by kernel_rfl) (fun _ _ _ h => h) (fun o ho w hS => ?y4_52_55) (by assumption) ?r4_52_55
        case y4_52_55 => (try dsimp only at hS); unfold execOp; simp only [ho]; go_simp; try with_reducible rfl
        try simp only [Act.put, List.setIfInBounds_toArray, List.set_cons_zero, List.set_cons_succ]
        refine held_run 3 (some 17) (.move (.tmp 7)) ?v4_52_56 (by rfl) (by kernel_rfl) (by kernel_rfl) (by kernel_rfl) (fun _ _ _ h => h) (fun o ho w hS => ?y4_52_56) (by assumption) ?r4_52_56
        case y4_52_56 => (try dsimp only at hS); unfold execOp; simp only [ho]; go_simp; try with_reducible rfl
        try simp only [Act.put, List.setIfInBounds_toArray, List.set_cons_zero, List.set_cons_succ]
        refine held_run 4 (some 18) (.indexAddr 25 (.tmp 16) (.tmp 17)) ?v4_52_57 (by rfl) (by kernel_rfl) (by kernel_rfl) (by kernel_rfl) (fun _ _ _ h => h) (fun o ho w hS => ?y4_52_57) (by assumption) ?r4_52_57
        case y4_52_57 => (try dsimp only at hS); unfold execOp; simp only [ho]; go_simp; try with_reducible rfl
        try simp only [Act.put, List.setIfInBounds_toArray, List.set_cons_zero, List.set_cons_succ]
        refine held_run 5 (some 19) (.load 3 (.tmp 18)) ?v4_52_58 (by rfl) (by kernel_rfl) (by kernel_rfl) (by kernel_rfl) (fun _ _ _ h => h) (fun o ho w hS => ?y4_52_58) (by assumption) ?r4_52_58
        case y4_52_58 => (try dsimp only at hS); unfold execOp; simp only [ho]; go_simp; try with_reducible rfl
        try simp only [Act.put, List.setIfInBounds_toArray, List.set_cons_zero, List.set_cons_succ]
        refine held_call 6 (some 20) 70 [(.tmp 14), (.tmp 15), (.tmp 19)] #[27, 3, 3] #[.agg #[vn, vl, vr, vb], .int .i64 run, .int .i64 x] (by rfl) (by rfl) (by kernel_rfl) Try.func70 (by rfl) (by rfl) ?_
        refine (HCx.out _ HMod.out).mono ?_
        rintro e w1 ⟨rfl, hb1⟩
        have hbb1 : Below wo.heap.size wo w1 := (Below.refl wo.heap.size wo).drew.trans hb1
        have HB1 := Lib.hid (HBo.out.trans (hbb1.mono hszo))
        have HW1 := Lib.hid (HWo.out.trans (hbb1.mono HWo.out.size))
        have hsz1 : wb.heap.size ≤ w1.heap.size := Nat.le_trans hszo hbb1.size
        have HX01 := Lib.hid (HX0o.out.below hbb1 (Nat.lt_of_lt_of_le hx0 hszo))
        have HM1 := Lib.hid (HMo.out.now hbb1)
        have HR1 := Lib.hid (HRo.out.now hbb1)
        have hH1 : (fun W => W.cell? (ad.add k) = some (.int .i64 x) ∧ Blk W w.heap.size 27 #[vn, vl, vr, vb]) w1 := ⟨(hbb1.cell (by rw [block_of_add]; exact hab)).trans hc, HX01.out⟩
        refine ⟨_, rfl, hH1, ?_⟩
        clear hb1 hbb1
        try simp only [Act.put, List.setIfInBounds_toArray, List.set_cons_zero, List.set_cons_succ]
        refine wpAnyH_done (by kernel_rfl) ?_ _
        go_wp2_with fail
        go_ret
        exact ⟨ret_i HF1.out.symm, HW1.out⟩
      | false =>
        rw [hq] at HCx
        have HF1 := Lib.hid (HNo.out hq)
        go_wp2_with fail
        refine wp_region_held_drew (S := fun W => W.cell? (ad.add k) = some (.int .i64 x) ∧ Blk W w.heap.size 27 #[vn, vl, vr, vb]) (by kernel_rfl) (⟨hc, HX⟩) (fun hHeld => ?_)
        refine held_load 0 (some 14) 27 (.tmp 3) (by rfl) (by kernel_rfl) (by kernel_rfl) (by kernel_rfl) (w.heap.size) 27 #[vn, vl, vr, vb] (fun _ _ _ h => h) (by rfl) (fun _ h => h.2) _ Try.underlying27 rfl (by kernel_rfl) (by assumption) ?_
        try simp only [Act.put, List.setIfInBounds_toArray, List.set_cons_zero, List.set_cons_succ]
        refine held_run 1 (some 15) (.move (.tmp 2)) ?v4_60_62 (by rfl) (by kernel_rfl) (by kernel_rfl) (by kernel_rfl) (fun _ _ _ h => h) (fun o ho w hS => ?y4_60_62) (by assumption) ?r4_60_62
        case y4_60_62 => (try dsimp only at hS); unfold execOp; simp only [ho]; go_simp; try with_reducible rfl
        try simp only [Act.put, List.setIfInBounds_toArray, List.set_cons_zero, List.set_cons_succ]
        refine held_run 2 (some 16) (.move (.tmp 1)) ?v4_60_63 (by rfl) (by kernel_rfl) (by kernel_rfl) (by kernel_rfl) (fun _ _ _ h => h) (fun o ho w hS => ?y4_60_63) (by assumption) ?r4_60_63
        case y4_60_63 => (try dsimp only at hS); unfold execOp; simp only [ho]; go_simp; try with_reducible rfl
        try simp only [Act.put, List.setIfInBounds_toArray, List.set_cons_zero, List.set_cons_succ]
        refine held_run 3 (some 17) (.move (.tmp 7)) ?v4_60_64 (by rfl) (by kernel_rfl) (by kernel_rfl) (by kernel_rfl) (fun _ _ _ h => h) (fun o ho w hS => ?y4_60_64) (by assumption) ?r4_60_64
        case y4_60_64 => (try dsimp only at hS); unfold execOp; simp only [ho]; go_simp; try with_reducible rfl
        try simp only [Act.put, List.setIfInBounds_toArray, List.set_cons_zero, List.set_cons_succ]
        refine held_run 4 (some 18) (.indexAddr 25 (.tmp 16) (.tmp 17)) ?v4_60_65 (by rfl) (by kernel_rfl) (by kernel_rfl) (by kernel_rfl) (fun _ _ _ h => h) (fun o ho w hS => ?y4_60_65) (by assumption) ?r4_60_65
        case y4_60_65 => (try dsimp only at hS); unfold execOp; simp only [ho]; go_simp; try with_reducible rfl
        try simp only [Act.put, List.setIfInBounds_toArray, List.set_cons_zero, List.set_cons_succ]
        refine held_run 5 (some 19) (.load 3 (.tmp 18)) ?v4_60_66 (by rfl) (by kernel_rfl) (by kernel_rfl) (by kernel_rfl) (fun _ _ _ h => h) (fun o ho w hS => ?y4_60_66) (by assumption) ?r4_60_66
        case y4_60_66 => (try dsimp only at hS); unfold execOp; simp only [ho]; go_simp; try with_reducible rfl
        try simp only [Act.put, List.setIfInBounds_toArray, List.set_cons_zero, List.set_cons_succ]
        refine held_call 6 (some 20) 70 [(.tmp 14), (.tmp 15), (.tmp 19)] #[27, 3, 3] #[.agg #[vn, vl, vr, vb], .int .i64 run, .int .i64 x] (by rfl) (by rfl) (by kernel_rfl) Try.func70 (by rfl) (by rfl) ?_
        refine (HCx.out _ HMod.out).mono ?_
        rintro e w1 ⟨rfl, hb1⟩
        have hbb1 : Below wo.heap.size wo w1 := (Below.refl wo.heap.size wo).drew.trans hb1
        have HB1 := Lib.hid (HBo.out.trans (hbb1.mono hszo))
        have HW1 := Lib.hid (HWo.out.trans (hbb1.mono HWo.out.size))
        have hsz1 : wb.heap.size ≤ w1.heap.size := Nat.le_trans hszo hbb1.size
        have HX01 := Lib.hid (HX0o.out.below hbb1 (Nat.lt_of_lt_of_le hx0 hszo))
        have HM1 := Lib.hid (HMo.out.now hbb1)
        have HR1 := Lib.hid (HRo.out.now hbb1)
        have hH1 : (fun W => W.cell? (ad.add k) = some (.int .i64 x) ∧ Blk W w.heap.size 27 #[vn, vl, vr, vb]) w1 := ⟨(hbb1.cell (by rw [block_of_add]; exact hab)).trans hc, HX01.out⟩
        refine ⟨_, rfl, hH1, ?_⟩
        clear hb1 hbb1
        try simp only [Act.put, List.setIfInBounds_toArray, List.set_cons_zero, List.set_cons_succ]
        refine wpAnyH_done (by kernel_rfl) ?_ _
        go_wp2_with fail
        go_roundw
        case rel => exact ⟨k + 1, by omega, by go_num, HF1.out, HB1.out⟩
        case measure => simp [intOf]; omega
    · obtain rfl : k = n := by omega
      have HF1 : Hid (r = -1) := by have h := HF.out; rw [List.drop_of_length_le (by rw [HL.out]; exact Nat.le_refl _)] at h; exact hide h
      go_wp2_with fail
      go_ret
      exact ⟨ret_i HF1.out.symm, HWo.out⟩

set_option maxRecDepth 100000 in
set_option maxHeartbeats 4000000 in
theorem rout_any (vn vl vr vb : Value) (rs : List Rn) (bs : List Int) (a : Int) (w : World) (hm : StrV Rn.cells 7 w w.heap.size vr rs) (hb : RowV w w.heap.size vb bs) :
    Calls Try.prog 68 #[.agg #[vn, vl, vr, vb], .int .i64 a] w fun e w' => e = .returned (.bool (outR rs bs a)) ∧ Below w.heap.size w w' := by
  have HM := Lib.hid hm
  obtain ⟨A, n, c, rfl, HL, h3, h4, hr⟩ := hb.nam
  have HR := Lib.hid hr
  have hn : n ≤ maxLen := Nat.le_trans h3 h4
  clear hm hb hr h3 h4
  obtain ⟨rp, hrp⟩ : ∃ x, getR rs a = x := ⟨_, rfl⟩
  obtain ⟨hp, hhp⟩ : ∃ x, hasR rs a = x := ⟨_, rfl⟩
  have HC : Hid (∀ W : World, StrV Rn.cells 7 W W.heap.size vr rs → Calls Try.prog 59 #[.agg #[vn, vl, vr, .slice A n c], .int .i64 a] W fun e w' => e = .returned (.tuple #[.agg #[.int .i64 rp.id, .int .i64 rp.op, .int .i64 rp.fr, .int .i64 rp.tt, .int .i64 rp.gr, .int .i64 rp.zn, .int .i64 rp.ln], .bool hp]) ∧ Below W.heap.size W w') := by
    intro W hW
    have h := rrun_any vn vl vr (.slice A n c) rs a W hW
    unfold RunR at h
    rw [hrp, hhp] at h
    exact h
  have HE : Hid (outR rs bs a = (hp && bs.contains rp.tt)) := by show _ = _; unfold outR outP; rw [hrp, hhp]
  clear hrp hhp
  obtain ⟨pid, pop, pfr, ptt, pgr, pzn, pln⟩ := rp
  simp only at HC HE
  go_enter Try.func68, Try.ntmps68
  go_wp2_with fail
  have HBwb := (Blk.new w 27 #[vn, vl, vr, .slice A n c])
  have HLwb := (below_new w (.cells #[vn, vl, vr, .slice A n c] 27))
  have hswb : (w.alloc (.cells #[vn, vl, vr, .slice A n c] 27)).heap.size = w.heap.size + 1 := by simp
  generalize w.alloc (.cells #[vn, vl, vr, .slice A n c] 27) = wb at HBwb HLwb hswb ⊢
  replace HBwb := Lib.hid HBwb
  replace HLwb := Lib.hid HLwb
  have hlwb : w.heap.size < wb.heap.size := by omega
  replace hswb := Lib.hid hswb
  have HWb := Lib.hid (HLwb.out)
  have hl0 : w.heap.size ≤ wb.heap.size := HWb.out.size
  have HBb : Hid (Below wb.heap.size wb wb) := hide (Below.refl _ _)
  have hszb : wb.heap.size ≤ wb.heap.size := Nat.le_refl _
  have HX0b : Hid (Blk wb w.heap.size 27 #[vn, vl, vr, .slice A n c]) := hide HBwb.out
  have hx0 : w.heap.size < wb.heap.size := HX0b.out.lt
  clear HBwb HLwb hswb hlwb
  have HMb := Lib.hid (HM.out.now HWb.out)
  have HRb := Lib.hid (HR.out.now HWb.out)
  go_wp2_with
    (first
     | (refine wpList_load_g 27 (.tmp 2) rfl rfl w.heap.size rfl _ _ HX0b.out _ Try.underlying27 rfl (by kernel_rfl) ?_))
  with_reducible refine (HC.out _ HMb.out).mono ?_
  rintro e w1 ⟨rfl, hb1⟩
  have HB1 := Lib.hid (HBb.out.trans (hb1.mono hszb))
  have HW1 := Lib.hid (HWb.out.trans (hb1.mono HWb.out.size))
  have hsz1 : wb.heap.size ≤ w1.heap.size := Nat.le_trans hszb hb1.size
  have HX01 := Lib.hid (HX0b.out.below hb1 (Nat.lt_of_lt_of_le hx0 hszb))
  have HM1 := Lib.hid (HMb.out.now hb1)
  have HR1 := Lib.hid (HRb.out.now hb1)
  clear hb1
  cases hp with
  | false =>
    go_wp2_with
      (first
       | (refine wpList_store_blk rfl 60 (.tmp 5) (.tmp 11) rfl w1.heap.size #[.int .i64 pid, .int .i64 pop, .int .i64 pfr, .int .i64 ptt, .int .i64 pgr, .int .i64 pzn, .int .i64 pln] rfl rfl _ _ (Blk.new w1 60 #[.int .i64 0, .int .i64 0, .int .i64 0, .int .i64 0, .int .i64 0, .int .i64 0, .int .i64 0]) (by kernel_rfl) rfl (by simp [Value.oneCell']) ?_
          intro w2 hx2 hon2
          have hb2 := hon2.below (below_new w1 (.cells #[.int .i64 0, .int .i64 0, .int .i64 0, .int .i64 0, .int .i64 0, .int .i64 0, .int .i64 0] 60)) (Nat.le_refl _)
          have HB2 := Lib.hid (HB1.out.trans (hb2.mono hsz1))
          have HW2 := Lib.hid (HW1.out.trans (hb2.mono HW1.out.size))
          have hsz2 : wb.heap.size ≤ w2.heap.size := Nat.le_trans hsz1 hb2.size
          have HX02 := Lib.hid (HX01.out.below hb2 (Nat.lt_of_lt_of_le hx0 hsz1))
          have HM2 := Lib.hid (HM1.out.now hb2)
          have HR2 := Lib.hid (HR1.out.now hb2)
          have e3 : w2.cell? ⟨w1.heap.size, 3, none⟩ = some (.int .i64 ptt) := hx2.cell 3
          have m3 : w2.cell? ⟨w.heap.size, 3, none⟩ = some (.slice A n c) := HX02.out.cell 3
          clear hx2 hon2 hb2))
    go_ret
    exact ⟨ret_b (by rw [HE.out]; rfl), HW2.out⟩
  | true =>
    obtain ⟨b, hb⟩ : ∃ b, bs.contains ptt = b := ⟨_, rfl⟩
    have HCo := Lib.hid hb
    clear hb
    go_wp2_with
      (first
       | (refine wpList_store_blk rfl 60 (.tmp 5) (.tmp 11) rfl w1.heap.size #[.int .i64 pid, .int .i64 pop, .int .i64 pfr, .int .i64 ptt, .int .i64 pgr, .int .i64 pzn, .int .i64 pln] rfl rfl _ _ (Blk.new w1 60 #[.int .i64 0, .int .i64 0, .int .i64 0, .int .i64 0, .int .i64 0, .int .i64 0, .int .i64 0]) (by kernel_rfl) rfl (by simp [Value.oneCell']) ?_
          intro w2 hx2 hon2
          have hb2 := hon2.below (below_new w1 (.cells #[.int .i64 0, .int .i64 0, .int .i64 0, .int .i64 0, .int .i64 0, .int .i64 0, .int .i64 0] 60)) (Nat.le_refl _)
          have HB2 := Lib.hid (HB1.out.trans (hb2.mono hsz1))
          have HW2 := Lib.hid (HW1.out.trans (hb2.mono HW1.out.size))
          have hsz2 : wb.heap.size ≤ w2.heap.size := Nat.le_trans hsz1 hb2.size
          have HX02 := Lib.hid (HX01.out.below hb2 (Nat.lt_of_lt_of_le hx0 hsz1))
          have HM2 := Lib.hid (HM1.out.now hb2)
          have HR2 := Lib.hid (HR1.out.now hb2)
          have e3 : w2.cell? ⟨w1.heap.size, 3, none⟩ = some (.int .i64 ptt) := hx2.cell 3
          have m3 : w2.cell? ⟨w.heap.size, 3, none⟩ = some (.slice A n c) := HX02.out.cell 3
          clear hx2 hon2 hb2))
    with_reducible refine (rhas_any A n c _ bs ptt b _ HR2.out hn HCo.out).mono ?_
    rintro e w' ⟨rfl, rfl⟩
    go_wp2_with fail
    go_ret
    exact ⟨ret_b (by rw [HE.out, HCo.out]; rfl), HW2.out⟩

set_option maxRecDepth 100000 in
set_option maxHeartbeats 4000000 in
theorem rnext_any (vn vl vr vb v1 v2 : Value) (rs : List Rn) (runs : List Int) (sw : List Sw) (w : World) (hm : StrV Rn.cells 7 w w.heap.size vr rs) (hr : RowV w w.heap.size v1 runs) (hd : StrV Sw.cells 4 w w.heap.size v2 sw) (hlen : runs.length ≤ 1000) :
    Calls Try.prog 49 #[.agg #[vn, vl, vr, vb], v1, v2] w fun e w' => ∃ v, e = .returned v ∧ OwnI w' w.heap.size v (readyL (befR rs) runs (sw.map Sw.run)) ∧ Below w.heap.size w w' := by
  have hrv := hr
  obtain ⟨A, n, c, rfl, HL, h3, h4, hr⟩ := hr.nam
  have HR := Lib.hid hr
  have HD := Lib.hid hd
  have HM := Lib.hid hm
  have HRv := Lib.hid hrv
  have hn : n ≤ 1000 := by rw [← HL.out]; exact hlen
  have HC : Hid (∀ (x : Int) (W : World), StrV Rn.cells 7 W W.heap.size vr rs → RowV W W.heap.size (.slice A n c) runs → StrV Sw.cells 4 W W.heap.size v2 sw → Calls Try.prog 47 #[.agg #[vn, vl, vr, vb], .slice A n c, v2, .int .i64 x] W fun e w' => e = .returned (.bool (possB (befR rs) runs (sw.map Sw.run) x)) ∧ Below W.heap.size W w') := fun x W q1 q2 q3 => rfree_any vn vl vr vb _ v2 rs runs sw x W q1 q2 q3
  have HCs : Hid (∀ (x : Int) (b : Bool) (W : World), StrV Sw.cells 4 W W.heap.size v2 sw → (sw.map Sw.run).contains x = b → Calls Try.prog 46 #[v2, .int .i64 x] W fun e w' => e = .returned (.bool b) ∧ W = w') := fun x b W q1 q2 => rswept_any v2 _ sw x b W q1 q2
  clear hm hr hd h3 h4 hrv hlen
  unfold readyL
  generalize possB (befR rs) runs (sw.map Sw.run) = poss at *
  generalize hdone : sw.map Sw.run = done at *
  clear hdone
  obtain ⟨g, hg⟩ : ∃ g : Int → Bool, g = fun x => !done.contains x && poss x := ⟨_, rfl⟩
  rw [← hg]
  have HG : Hid (∀ x, g x = (!done.contains x && poss x)) := fun x => by rw [hg]
  clear hg
  go_enter Try.func49, Try.ntmps49
  go_wp2_with fail
  have HBwb := (Blk.new w 27 #[vn, vl, vr, vb])
  have HLwb := (below_new w (.cells #[vn, vl, vr, vb] 27))
  have hswb : (w.alloc (.cells #[vn, vl, vr, vb] 27)).heap.size = w.heap.size + 1 := by simp
  generalize w.alloc (.cells #[vn, vl, vr, vb] 27) = wb at HBwb HLwb hswb ⊢
  replace HBwb := Lib.hid HBwb
  replace HLwb := Lib.hid HLwb
  have hlwb : w.heap.size < wb.heap.size := by omega
  replace hswb := Lib.hid hswb
  have HWb := Lib.hid (HLwb.out)
  have hl0 : w.heap.size ≤ wb.heap.size := HWb.out.size
  have HBb : Hid (Below wb.heap.size wb wb) := hide (Below.refl _ _)
  have hszb : wb.heap.size ≤ wb.heap.size := Nat.le_refl _
  have HX0b : Hid (Blk wb w.heap.size 27 #[vn, vl, vr, vb]) := hide HBwb.out
  have hx0 : w.heap.size < wb.heap.size := HX0b.out.lt
  clear HBwb HLwb hswb hlwb
  have HMb := Lib.hid (HM.out.now HWb.out)
  have HRb := Lib.hid (HR.out.now HWb.out)
  have HDb := Lib.hid (HD.out.now HWb.out)
  have HRvb := Lib.hid (HRv.out.now HWb.out)
  go_loopw [7, 8] (fun v i wr => ∃ k : Nat, k ≤ n ∧ i = .int .i64 k ∧ OwnI wr wb.heap.size v ((runs.take k).filter g) ∧ Below wb.heap.size wb wr) (fun _ i _ => n - (intOf i).toNat)
  case atStart => exact ⟨0, by omega, rfl, OwnI.nil _ _, Below.refl _ _⟩
  case round =>
    obtain ⟨k, hk, rfl, hO, hbr⟩ := hrel
    have HOw := Lib.hid hO
    obtain ⟨Av, nv, cv, rfl, HLv, hv1, hv2, _⟩ := hO.nam
    have hnv : nv ≤ k := by rw [← HLv.out]; exact filter_take_le g runs k
    clear hO
    obtain ⟨wo, rfl⟩ : ∃ wo : World, wo = wr := ⟨_, rfl⟩
    have HBo := Lib.hid (HBb.out.trans (hbr.mono hszb))
    have HWo := Lib.hid (HWb.out.trans (hbr.mono HWb.out.size))
    have hszo : wb.heap.size ≤ wo.heap.size := Nat.le_trans hszb hbr.size
    have HX0o := Lib.hid (HX0b.out.below hbr (Nat.lt_of_lt_of_le hx0 hszb))
    have HMo := Lib.hid (HMb.out.now hbr)
    have HRo := Lib.hid (HRb.out.now hbr)
    have HDo := Lib.hid (HDb.out.now hbr)
    have HRvo := Lib.hid (HRvb.out.now hbr)
    clear hbr
    by_cases hlt : k < n
    · obtain ⟨ad, rfl, hab, hc⟩ := HRo.out.int hlt
      have HS := Lib.hid (filter_at g runs k (by rw [HL.out]; exact hlt))
      generalize runs.getD k 0 = x at *
      generalize (runs.take k).filter g = T at *
      have HGx := Lib.hid (HG.out x)
      have HX := HX0o.out
      have HMod : Hid (StrV Rn.cells 7 wo.drew wo.drew.heap.size vr rs) := hide HMo.out
      have HDod : Hid (StrV Sw.cells 4 wo.drew wo.drew.heap.size v2 sw) := hide HDo.out
      have HRvod : Hid (RowV wo.drew wo.drew.heap.size (.slice (some ad) n c) runs) := hide HRvo.out
      cases hd : done.contains x with
      | true =>
        have HF1 : Hid ((runs.take (k + 1)).filter g = T) := hide (HS.out.trans (by rw [HGx.out, hd]; simp))
        go_wp2_with fail
        refine wp_region_held_drew (S := fun W => W.cell? (ad.add k) = some (.int .i64 x) ∧ Blk W w.heap.size 27 #[vn, vl, vr, vb]) (by kernel_rfl) (⟨hc, HX⟩) (fun hHeld => ?_)
        refine held_run 0 (some 15) (.move (.tmp 2)) ?v5_68_69 (by rfl) (by kernel_rfl) (by kernel_rfl) (by kernel_rfl) (fun _ _ _ h => h) (fun o ho w hS => ?y5_68_69) (by assumption) ?r5_68_69
        case y5_68_69 => (try dsimp only at hS); unfold execOp; simp only [ho]; go_simp; try with_reducible rfl
        try simp only [Act.put, List.setIfInBounds_toArray, List.set_cons_zero, List.set_cons_succ]
        refine held_run 1 (some 16) (.move (.tmp 1)) ?v5_68_70 (by rfl) (by kernel_rfl) (by kernel_rfl) (by kernel_rfl) (fun _ _ _ h => h) (fun o ho w hS => ?y5_68_70) (by assumption) ?r5_68_70
        case y5_68_70 => (try dsimp only at hS); unfold execOp; simp only [ho]; go_simp; try with_reducible rfl
        try simp only [Act.put, List.setIfInBounds_toArray, List.set_cons_zero, List.set_cons_succ]
        refine held_run 2 (some 17) (.move (.tmp 8)) ?v5_68_71 (by rfl) (by kernel_rfl) (by kernel_rfl) (by kernel_rfl) (fun _ _ _ h => h) (fun o ho w hS => ?y5_68_71) (by assumption) ?r5_68_71
        case y5_68_71 => (try dsimp only at hS); unfold execOp; simp only [ho]; go_simp; try with_reducible rfl
        try simp only [Act.put, List.setIfInBounds_toArray, List.set_cons_zero, List.set_cons_succ]
        refine held_run 3 (some 18) (.indexAddr 25 (.tmp 16) (.tmp 17)) ?v5_68_72 (by rfl) (by kernel_rfl) (by kernel_rfl) (by kernel_rfl) (fun _ _ _ h => h) (fun o ho w hS => ?y5_68_72) (by assumption) ?r5_68_72
        case y5_68_72 => (try dsimp only at hS); unfold execOp; simp only [ho]; go_simp; try with_reducible rfl
        try simp only [Act.put, List.setIfInBounds_toArray, List.set_cons_zero, List.set_cons_succ]
        refine held_run 4 (some 19) (.load 3 (.tmp 18)) ?v5_68_73 (by rfl) (by kernel_rfl) (by kernel_rfl) (by kernel_rfl) (fun _ _ _ h => h) (fun o ho w hS => ?y5_68_73) (by assumption) ?r5_68_73
        case y5_68_73 => (try dsimp only at hS); unfold execOp; simp only [ho]; go_simp; try with_reducible rfl
        try simp only [Act.put, List.setIfInBounds_toArray, List.set_cons_zero, List.set_cons_succ]
        refine held_call 5 (some 20) 46 [(.tmp 15), (.tmp 19)] #[28, 3] #[v2, .int .i64 x] (by rfl) (by rfl) (by kernel_rfl) Try.func46 (by rfl) (by rfl) ?_
        refine (HCs.out x true _ HDod.out hd).mono ?_
        rintro e w' ⟨rfl, rfl⟩
        refine ⟨_, rfl, ⟨hc, HX⟩, ?_⟩
        try simp only [Act.put, List.setIfInBounds_toArray, List.set_cons_zero, List.set_cons_succ]
        refine held_run 6 (some 21) (.unOp .not 4 (.tmp 20)) ?v5_68_75 (by rfl) (by kernel_rfl) (by kernel_rfl) (by kernel_rfl) (fun _ _ _ h => h) (fun o ho w hS => ?y5_68_75) (by assumption) ?r5_68_75
        case y5_68_75 => (try dsimp only at hS); unfold execOp; simp only [ho]; go_simp; try with_reducible rfl
        try simp only [Act.put, List.setIfInBounds_toArray, List.set_cons_zero, List.set_cons_succ]
        refine held_run 7 (some 22) (.move (.tmp 21)) ?v5_68_76 (by rfl) (by kernel_rfl) (by kernel_rfl) (by kernel_rfl) (fun _ _ _ h => h) (fun o ho w hS => ?y5_68_76) (by assumption) ?r5_68_76
        case y5_68_76 => (try dsimp only at hS); unfold execOp; simp only [ho]; go_simp; try with_reducible rfl
        try simp only [Act.put, List.setIfInBounds_toArray, List.set_cons_zero, List.set_cons_succ]
        refine held_skip 8 (some 23) (by rfl) (by kernel_rfl) (by kernel_rfl) (by kernel_rfl) (fun _ _ _ h => h) (by assumption) ?_
        try simp only [Act.put, List.setIfInBounds_toArray, List.set_cons_zero, List.set_cons_succ]
        refine held_skip 9 (some 24) (by rfl) (by kernel_rfl) (by kernel_rfl) (by kernel_rfl) (fun _ _ _ h => h) (by assumption) ?_
        try simp only [Act.put, List.setIfInBounds_toArray, List.set_cons_zero, List.set_cons_succ]
        refine held_skip 10 (some 25) (by rfl) (by kernel_rfl) (by kernel_rfl) (by kernel_rfl) (fun _ _ _ h => h) (by assumption) ?_
        try simp only [Act.put, List.setIfInBounds_toArray, List.set_cons_zero, List.set_cons_succ]
        refine held_skip 11 (some 26) (by rfl) (by kernel_rfl) (by kernel_rfl) (by kernel_rfl) (fun _ _ _ h => h) (by assumption) ?_
        try simp only [Act.put, List.setIfInBounds_toArray, List.set_cons_zero, List.set_cons_succ]
        refine held_skip 12 (some 27) (by rfl) (by kernel_rfl) (by kernel_rfl) (by kernel_rfl) (fun _ _ _ h => h) (by assumption) ?_
        try simp only [Act.put, List.setIfInBounds_toArray, List.set_cons_zero, List.set_cons_succ]
        refine held_skip 13 (some 28) (by rfl) (by kernel_rfl) (by kernel_rfl) (by kernel_rfl) (fun _ _ _ h => h) (by assumption) ?_
        try simp only [Act.put, List.setIfInBounds_toArray, List.set_cons_zero, List.set_cons_succ]
        refine held_skip 14 (some 29) (by rfl) (by kernel_rfl) (by kernel_rfl) (by kernel_rfl) (fun _ _ _ h => h) (by assumption) ?_
        try simp only [Act.put, List.setIfInBounds_toArray, List.set_cons_zero, List.set_cons_succ]
        refine held_skip 15 (some 30) (by rfl) (by kernel_rfl) (by kernel_rfl) (by kernel_rfl) (fun _ _ _ h => h) (by assumption) ?_
        try simp only [Act.put, List.setIfInBounds_toArray, List.set_cons_zero, List.set_cons_succ]
        refine held_run 16 (some 31) (.pick (.tmp 22) (.tmp 30) (.const (Value.bool false))) ?v5_68_85 (by rfl) (by kernel_rfl) (by kernel_rfl) (by kernel_rfl) (fun _ _ _ h => h) (fun o ho w hS => ?y5_68_85) (by assumption) ?r5_68_85
        case y5_68_85 => (try dsimp only at hS); unfold execOp; simp only [ho]; go_simp; try with_reducible rfl
        try simp only [Act.put, List.setIfInBounds_toArray, List.set_cons_zero, List.set_cons_succ]
        refine wpAnyH_done (by kernel_rfl) ?_ _
        go_wp2_with fail
        go_roundw
        case rel => exact ⟨k + 1, by omega, by go_num, by rw [HF1.out]; exact (own_below HOw.out ((Below.refl wo.heap.size wo).drew) (Nat.le_refl _)), HBo.out.drew⟩
        case measure => simp [intOf]; omega
      | false =>
        have HCx := Lib.hid (HC.out x)
        cases hp : poss x with
        | false =>
          rw [hp] at HCx
          have HF1 : Hid ((runs.take (k + 1)).filter g = T) := hide (HS.out.trans (by rw [HGx.out, hd, hp]; simp))
          go_wp2_with fail
          refine wp_region_held_drew (S := fun W => W.cell? (ad.add k) = some (.int .i64 x) ∧ Blk W w.heap.size 27 #[vn, vl, vr, vb]) (by kernel_rfl) (⟨hc, HX⟩) (fun hHeld => ?_)
          refine held_run 0 (some 15) (.move (.tmp 2)) ?v5_86_87 (by rfl) (by kernel_rfl) (by kernel_rfl) (by kernel_rfl) (fun _ _ _ h => h) (fun o ho w hS => ?y5_86_87) (by assumption) ?r5_86_87
          case y5_86_87 => (try dsimp only at hS); unfold execOp; simp only [ho]; go_simp; try with_reducible rfl
          try simp only [Act.put, List.setIfInBounds_toArray, List.set_cons_zero, List.set_cons_succ]
          refine held_run 1 (some 16) (.move (.tmp 1)) ?v5_86_88 (by rfl) (by kernel_rfl) (by kernel_rfl) (by kernel_rfl) (fun _ _ _ h => h) (fun o ho w hS => ?y5_86_88) (by assumption) ?r5_86_88
          case y5_86_88 => (try dsimp only at hS); unfold execOp; simp only [ho]; go_simp; try with_reducible rfl
          try simp only [Act.put, List.setIfInBounds_toArray, List.set_cons_zero, List.set_cons_succ]
          refine held_run 2 (some 17) (.move (.tmp 8)) ?v5_86_89 (by rfl) (by kernel_rfl) (by kernel_rfl) (by kernel_rfl) (fun _ _ _ h => h) (fun o ho w hS => ?y5_86_89) (by assumption) ?r5_86_89
          case y5_86_89 => (try dsimp only at hS); unfold execOp; simp only [ho]; go_simp; try with_reducible rfl
          try simp only [Act.put, List.setIfInBounds_toArray, List.set_cons_zero, List.set_cons_succ]
          refine held_run 3 (some 18) (.indexAddr 25 (.tmp 16) (.tmp 17)) ?v5_86_90 (by rfl) (by kernel_rfl) (by kernel_rfl) (by kernel_rfl) (fun _ _ _ h => h) (fun o ho w hS => ?y5_86_90) (by assumption) ?r5_86_90
          case y5_86_90 => (try dsimp only at hS); unfold execOp; simp only [ho]; go_simp; try with_reducible rfl
          try simp only [Act.put, List.setIfInBounds_toArray, List.set_cons_zero, List.set_cons_succ]
          refine held_run 4 (some 19) (.load 3 (.tmp 18)) ?v5_86_91 (by rfl) (by kernel_rfl) (by kernel_rfl) (by kernel_rfl) (fun _ _ _ h => h) (fun o ho w hS => ?y5_86_91) (by assumption) ?r5_86_91
          case y5_86_91 => (try dsimp only at hS); unfold execOp; simp only [ho]; go_simp; try with_reducible rfl
          try simp only [Act.put, List.setIfInBounds_toArray, List.set_cons_zero, List.set_cons_succ]
          refine held_call 5 (some 20) 46 [(.tmp 15), (.tmp 19)] #[28, 3] #[v2, .int .i64 x] (by rfl) (by rfl) (by kernel_rfl) Try.func46 (by rfl) (by rfl) ?_
          refine (HCs.out x false _ HDod.out hd).mono ?_
          rintro e w' ⟨rfl, rfl⟩
          refine ⟨_, rfl, ⟨hc, HX⟩, ?_⟩
          try simp only [Act.put, List.setIfInBounds_toArray, List.set_cons_zero, List.set_cons_succ]
          refine held_run 6 (some 21) (.unOp .not 4 (.tmp 20)) ?v5_86_93 (by rfl) (by kernel_rfl) (by kernel_rfl) (by kernel_rfl) (fun _ _ _ h => h) (fun o ho w hS => ?y5_86_93) (by assumption) ?r5_86_93
          case y5_86_93 => (try dsimp only at hS); unfold execOp; simp only [ho]; go_simp; try with_reducible rfl
          try simp only [Act.put, List.setIfInBounds_toArray, List.set_cons_zero, List.set_cons_succ]
          refine held_run 7 (some 22) (.move (.tmp 21)) ?v5_86_94 (by rfl) (by kernel_rfl) (by kernel_rfl) (by kernel_rfl) (fun _ _ _ h => h) (fun o ho w hS => ?y5_86_94) (by assumption) ?r5_86_94
          case y5_86_94 => (try dsimp only at hS); unfold execOp; simp only [ho]; go_simp; try with_reducible rfl
          try simp only [Act.put, List.setIfInBounds_toArray, List.set_cons_zero, List.set_cons_succ]
          refine held_load 8 (some 23) 27 (.tmp 3) (by rfl) (by kernel_rfl) (by kernel_rfl) (by kernel_rfl) (w.heap.size) 27 #[vn, vl, vr, vb] (fun _ _ _ h => h) (by rfl) (fun _ h => h.2) _ Try.underlying27 rfl (by kernel_rfl) (by assumption) ?_
          try simp only [Act.put, List.setIfInBounds_toArray, List.set_cons_zero, List.set_cons_succ]
          refine held_run 9 (some 24) (.move (.tmp 1)) ?v5_86_96 (by rfl) (by kernel_rfl) (by kernel_rfl) (by kernel_rfl) (fun _ _ _ h => h) (fun o ho w hS => ?y5_86_96) (by assumption) ?r5_86_96
          case y5_86_96 => (try dsimp only at hS); unfold execOp; simp only [ho]; go_simp; try with_reducible rfl
          try simp only [Act.put, List.setIfInBounds_toArray, List.set_cons_zero, List.set_cons_succ]
          refine held_run 10 (some 25) (.move (.tmp 2)) ?v5_86_97 (by rfl) (by kernel_rfl) (by kernel_rfl) (by kernel_rfl) (fun _ _ _ h => h) (fun o ho w hS => ?y5_86_97) (by assumption) ?r5_86_97
          case y5_86_97 => (try dsimp only at hS); unfold execOp; simp only [ho]; go_simp; try with_reducible rfl
          try simp only [Act.put, List.setIfInBounds_toArray, List.set_cons_zero, List.set_cons_succ]
          refine held_run 11 (some 26) (.move (.tmp 1)) ?v5_86_98 (by rfl) (by kernel_rfl) (by kernel_rfl) (by kernel_rfl) (fun _ _ _ h => h) (fun o ho w hS => ?y5_86_98) (by assumption) ?r5_86_98
          case y5_86_98 => (try dsimp only at hS); unfold execOp; simp only [ho]; go_simp; try with_reducible rfl
          try simp only [Act.put, List.setIfInBounds_toArray, List.set_cons_zero, List.set_cons_succ]
          refine held_run 12 (some 27) (.move (.tmp 8)) ?v5_86_99 (by rfl) (by kernel_rfl) (by kernel_rfl) (by kernel_rfl) (fun _ _ _ h => h) (fun o ho w hS => ?y5_86_99) (by assumption) ?r5_86_99
          case y5_86_99 => (try dsimp only at hS); unfold execOp; simp only [ho]; go_simp; try with_reducible rfl
          try simp only [Act.put, List.setIfInBounds_toArray, List.set_cons_zero, List.set_cons_succ]
          refine held_run 13 (some 28) (.indexAddr 25 (.tmp 26) (.tmp 27)) ?v5_86_100 (by rfl) (by kernel_rfl) (by kernel_rfl) (by kernel_rfl) (fun _ _ _ h => h) (fun o ho w hS => ?y5_86_100) (by assumption) ?r5_86_100
          case y5_86_100 => (try dsimp only at hS); unfold execOp; simp only [ho]; go_simp; try with_reducible rfl
          try simp only [Act.put, List.setIfInBounds_toArray, List.set_cons_zero, List.set_cons_succ]
          refine held_run 14 (some 29) (.load 3 (.tmp 28)) ?v5_86_101 (by rfl) (by kernel_rfl) (by kernel_rfl) (by kernel_rfl) (fun _ _ _ h => h) (fun o ho w hS => ?y5_86_101) (by assumption) ?r5_86_101
          case y5_86_101 => (try dsimp only at hS); unfold execOp; simp only [ho]; go_simp; try with_reducible rfl
          try simp only [Act.put, List.setIfInBounds_toArray, List.set_cons_zero, List.set_cons_succ]
          refine held_call 15 (some 30) 47 [(.tmp 23), (.tmp 24), (.tmp 25), (.tmp 29)] #[27, 25, 28, 3] #[.agg #[vn, vl, vr, vb], .slice (some ad) n c, v2, .int .i64 x] (by rfl) (by rfl) (by kernel_rfl) Try.func47 (by rfl) (by rfl) ?_
          refine (HCx.out _ HMod.out HRvod.out HDod.out).mono ?_
          rintro e w1 ⟨rfl, hb1⟩
          have hbb1 : Below wo.heap.size wo w1 := (Below.refl wo.heap.size wo).drew.trans hb1
          have HO1 : Hid (OwnI w1 wb.heap.size (.slice Av nv cv) T) := hide (own_below HOw.out hbb1 (Nat.le_refl _))
          have hc1 : w1.cell? (ad.add k) = some (.int .i64 x) := (hbb1.cell (by rw [block_of_add]; exact hab)).trans hc
          have HB1 := Lib.hid (HBo.out.trans (hbb1.mono hszo))
          have HW1 := Lib.hid (HWo.out.trans (hbb1.mono HWo.out.size))
          have hsz1 : wb.heap.size ≤ w1.heap.size := Nat.le_trans hszo hbb1.size
          have HX01 := Lib.hid (HX0o.out.below hbb1 (Nat.lt_of_lt_of_le hx0 hszo))
          have HM1 := Lib.hid (HMo.out.now hbb1)
          have HR1 := Lib.hid (HRo.out.now hbb1)
          have HD1 := Lib.hid (HDo.out.now hbb1)
          have HRv1 := Lib.hid (HRvo.out.now hbb1)
          have hH1 : (fun W => W.cell? (ad.add k) = some (.int .i64 x) ∧ Blk W w.heap.size 27 #[vn, vl, vr, vb]) w1 := ⟨hc1, HX01.out⟩
          refine ⟨_, rfl, hH1, ?_⟩
          clear hb1 hbb1
          try simp only [Act.put, List.setIfInBounds_toArray, List.set_cons_zero, List.set_cons_succ]
          refine held_run 16 (some 31) (.pick (.tmp 22) (.tmp 30) (.const (Value.bool false))) ?v5_86_103 (by rfl) (by kernel_rfl) (by kernel_rfl) (by kernel_rfl) (fun _ _ _ h => h) (fun o ho w hS => ?y5_86_103) (by assumption) ?r5_86_103
          case y5_86_103 => (try dsimp only at hS); unfold execOp; simp only [ho]; go_simp; try with_reducible rfl
          try simp only [Act.put, List.setIfInBounds_toArray, List.set_cons_zero, List.set_cons_succ]
          refine wpAnyH_done (by kernel_rfl) ?_ _
          go_wp2_with fail
          go_roundw
          case rel => exact ⟨k + 1, by omega, by go_num, by rw [HF1.out]; exact HO1.out, HB1.out⟩
          case measure => simp [intOf]; omega
        | true =>
          rw [hp] at HCx
          have HF1 : Hid ((runs.take (k + 1)).filter g = T ++ [x]) := hide (HS.out.trans (by rw [HGx.out, hd, hp]; simp))
          go_wp2_with fail
          refine wp_region_held_drew (S := fun W => W.cell? (ad.add k) = some (.int .i64 x) ∧ Blk W w.heap.size 27 #[vn, vl, vr, vb]) (by kernel_rfl) (⟨hc, HX⟩) (fun hHeld => ?_)
          refine held_run 0 (some 15) (.move (.tmp 2)) ?v5_104_105 (by rfl) (by kernel_rfl) (by kernel_rfl) (by kernel_rfl) (fun _ _ _ h => h) (fun o ho w hS => ?y5_104_105) (by assumption) ?r5_104_105
          case y5_104_105 => (try dsimp only at hS); unfold execOp; simp only [ho]; go_simp; try with_reducible rfl
          try simp only [Act.put, List.setIfInBounds_toArray, List.set_cons_zero, List.set_cons_succ]
          refine held_run 1 (some 16) (.move (.tmp 1)) ?v5_104_106 (by rfl) (by kernel_rfl) (by kernel_rfl) (by kernel_rfl) (fun _ _ _ h => h) (fun o ho w hS => ?y5_104_106) (by assumption) ?r5_104_106
          case y5_104_106 => (try dsimp only at hS); unfold execOp; simp only [ho]; go_simp; try with_reducible rfl
          try simp only [Act.put, List.setIfInBounds_toArray, List.set_cons_zero, List.set_cons_succ]
          refine held_run 2 (some 17) (.move (.tmp 8)) ?v5_104_107 (by rfl) (by kernel_rfl) (by kernel_rfl) (by kernel_rfl) (fun _ _ _ h => h) (fun o ho w hS => ?y5_104_107) (by assumption) ?r5_104_107
          case y5_104_107 => (try dsimp only at hS); unfold execOp; simp only [ho]; go_simp; try with_reducible rfl
          try simp only [Act.put, List.setIfInBounds_toArray, List.set_cons_zero, List.set_cons_succ]
          refine held_run 3 (some 18) (.indexAddr 25 (.tmp 16) (.tmp 17)) ?v5_104_108 (by rfl) (by kernel_rfl) (by kernel_rfl) (by kernel_rfl) (fun _ _ _ h => h) (fun o ho w hS => ?y5_104_108) (by assumption) ?r5_104_108
          case y5_104_108 => (try dsimp only at hS); unfold execOp; simp only [ho]; go_simp; try with_reducible rfl
          try simp only [Act.put, List.setIfInBounds_toArray, List.set_cons_zero, List.set_cons_succ]
          refine held_run 4 (some 19) (.load 3 (.tmp 18)) ?v5_104_109 (by rfl) (by kernel_rfl) (by kernel_rfl) (by kernel_rfl) (fun _ _ _ h => h) (fun o ho w hS => ?y5_104_109) (by assumption) ?r5_104_109
          case y5_104_109 => (try dsimp only at hS); unfold execOp; simp only [ho]; go_simp; try with_reducible rfl
          try simp only [Act.put, List.setIfInBounds_toArray, List.set_cons_zero, List.set_cons_succ]
          refine held_call 5 (some 20) 46 [(.tmp 15), (.tmp 19)] #[28, 3] #[v2, .int .i64 x] (by rfl) (by rfl) (by kernel_rfl) Try.func46 (by rfl) (by rfl) ?_
          refine (HCs.out x false _ HDod.out hd).mono ?_
          rintro e w' ⟨rfl, rfl⟩
          refine ⟨_, rfl, ⟨hc, HX⟩, ?_⟩
          try simp only [Act.put, List.setIfInBounds_toArray, List.set_cons_zero, List.set_cons_succ]
          refine held_run 6 (some 21) (.unOp .not 4 (.tmp 20)) ?v5_104_111 (by rfl) (by kernel_rfl) (by kernel_rfl) (by kernel_rfl) (fun _ _ _ h => h) (fun o ho w hS => ?y5_104_111) (by assumption) ?r5_104_111
          case y5_104_111 => (try dsimp only at hS); unfold execOp; simp only [ho]; go_simp; try with_reducible rfl
          try simp only [Act.put, List.setIfInBounds_toArray, List.set_cons_zero, List.set_cons_succ]
          refine held_run 7 (some 22) (.move (.tmp 21)) ?v5_104_112 (by rfl) (by kernel_rfl) (by kernel_rfl) (by kernel_rfl) (fun _ _ _ h => h) (fun o ho w hS => ?y5_104_112) (by assumption) ?r5_104_112
          case y5_104_112 => (try dsimp only at hS); unfold execOp; simp only [ho]; go_simp; try with_reducible rfl
          try simp only [Act.put, List.setIfInBounds_toArray, List.set_cons_zero, List.set_cons_succ]
          refine held_load 8 (some 23) 27 (.tmp 3) (by rfl) (by kernel_rfl) (by kernel_rfl) (by kernel_rfl) (w.heap.size) 27 #[vn, vl, vr, vb] (fun _ _ _ h => h) (by rfl) (fun _ h => h.2) _ Try.underlying27 rfl (by kernel_rfl) (by assumption) ?_
          try simp only [Act.put, List.setIfInBounds_toArray, List.set_cons_zero, List.set_cons_succ]
          refine held_run 9 (some 24) (.move (.tmp 1)) ?v5_104_114 (by rfl) (by kernel_rfl) (by kernel_rfl) (by kernel_rfl) (fun _ _ _ h => h) (fun o ho w hS => ?y5_104_114) (by assumption) ?r5_104_114
          case y5_104_114 => (try dsimp only at hS); unfold execOp; simp only [ho]; go_simp; try with_reducible rfl
          try simp only [Act.put, List.setIfInBounds_toArray, List.set_cons_zero, List.set_cons_succ]
          refine held_run 10 (some 25) (.move (.tmp 2)) ?v5_104_115 (by rfl) (by kernel_rfl) (by kernel_rfl) (by kernel_rfl) (fun _ _ _ h => h) (fun o ho w hS => ?y5_104_115) (by assumption) ?r5_104_115
          case y5_104_115 => (try dsimp only at hS); unfold execOp; simp only [ho]; go_simp; try with_reducible rfl
          try simp only [Act.put, List.setIfInBounds_toArray, List.set_cons_zero, List.set_cons_succ]
          refine held_run 11 (some 26) (.move (.tmp 1)) ?v5_104_116 (by rfl) (by kernel_rfl) (by kernel_rfl) (by kernel_rfl) (fun _ _ _ h => h) (fun o ho w hS => ?y5_104_116) (by assumption) ?r5_104_116
          case y5_104_116 => (try dsimp only at hS); unfold execOp; simp only [ho]; go_simp; try with_reducible rfl
          try simp only [Act.put, List.setIfInBounds_toArray, List.set_cons_zero, List.set_cons_succ]
          refine held_run 12 (some 27) (.move (.tmp 8)) ?v5_104_117 (by rfl) (by kernel_rfl) (by kernel_rfl) (by kernel_rfl) (fun _ _ _ h => h) (fun o ho w hS => ?y5_104_117) (by assumption) ?r5_104_117
          case y5_104_117 => (try dsimp only at hS); unfold execOp; simp only [ho]; go_simp; try with_reducible rfl
          try simp only [Act.put, List.setIfInBounds_toArray, List.set_cons_zero, List.set_cons_succ]
          refine held_run 13 (some 28) (.indexAddr 25 (.tmp 26) (.tmp 27)) ?v5_104_118 (by rfl) (by kernel_rfl) (by kernel_rfl) (by kernel_rfl) (fun _ _ _ h => h) (fun o ho w hS => ?y5_104_118) (by assumption) ?r5_104_118
          case y5_104_118 => (try dsimp only at hS); unfold execOp; simp only [ho]; go_simp; try with_reducible rfl
          try simp only [Act.put, List.setIfInBounds_toArray, List.set_cons_zero, List.set_cons_succ]
          refine held_run 14 (some 29) (.load 3 (.tmp 28)) ?v5_104_119 (by rfl) (by kernel_rfl) (by kernel_rfl) (by kernel_rfl) (fun _ _ _ h => h) (fun o ho w hS => ?y5_104_119) (by assumption) ?r5_104_119
          case y5_104_119 => (try dsimp only at hS); unfold execOp; simp only [ho]; go_simp; try with_reducible rfl
          try simp only [Act.put, List.setIfInBounds_toArray, List.set_cons_zero, List.set_cons_succ]
          refine held_call 15 (some 30) 47 [(.tmp 23), (.tmp 24), (.tmp 25), (.tmp 29)] #[27, 25, 28, 3] #[.agg #[vn, vl, vr, vb], .slice (some ad) n c, v2, .int .i64 x] (by rfl) (by rfl) (by kernel_rfl) Try.func47 (by rfl) (by rfl) ?_
          refine (HCx.out _ HMod.out HRvod.out HDod.out).mono ?_
          rintro e w1 ⟨rfl, hb1⟩
          have hbb1 : Below wo.heap.size wo w1 := (Below.refl wo.heap.size wo).drew.trans hb1
          have HO1 : Hid (OwnI w1 wb.heap.size (.slice Av nv cv) T) := hide (own_below HOw.out hbb1 (Nat.le_refl _))
          have hc1 : w1.cell? (ad.add k) = some (.int .i64 x) := (hbb1.cell (by rw [block_of_add]; exact hab)).trans hc
          have HB1 := Lib.hid (HBo.out.trans (hbb1.mono hszo))
          have HW1 := Lib.hid (HWo.out.trans (hbb1.mono HWo.out.size))
          have hsz1 : wb.heap.size ≤ w1.heap.size := Nat.le_trans hszo hbb1.size
          have HX01 := Lib.hid (HX0o.out.below hbb1 (Nat.lt_of_lt_of_le hx0 hszo))
          have HM1 := Lib.hid (HMo.out.now hbb1)
          have HR1 := Lib.hid (HRo.out.now hbb1)
          have HD1 := Lib.hid (HDo.out.now hbb1)
          have HRv1 := Lib.hid (HRvo.out.now hbb1)
          have hH1 : (fun W => W.cell? (ad.add k) = some (.int .i64 x) ∧ Blk W w.heap.size 27 #[vn, vl, vr, vb]) w1 := ⟨hc1, HX01.out⟩
          refine ⟨_, rfl, hH1, ?_⟩
          clear hb1 hbb1
          try simp only [Act.put, List.setIfInBounds_toArray, List.set_cons_zero, List.set_cons_succ]
          refine held_run 16 (some 31) (.pick (.tmp 22) (.tmp 30) (.const (Value.bool false))) ?v5_104_121 (by rfl) (by kernel_rfl) (by kernel_rfl) (by kernel_rfl) (fun _ _ _ h => h) (fun o ho w hS => ?y5_104_121) (by assumption) ?r5_104_121
          case y5_104_121 => (try dsimp only at hS); unfold execOp; simp only [ho]; go_simp; try with_reducible rfl
          try simp only [Act.put, List.setIfInBounds_toArray, List.set_cons_zero, List.set_cons_succ]
          refine wpAnyH_done (by kernel_rfl) ?_ _
          go_wp2_with
            (at_builtin
             refine wpList_app_lit ei_ints rfl (.tmp 32) (.tmp 37) rfl wb.heap.size (.slice Av nv cv) nv (T.map (Value.int .i64)) rfl (HO1.out.row HLv.out) 1 rfl rfl (by simp [Value.oneCell']) (by simp only [maxLen]; omega) (by omega) hsz1 ?_
             intro v2 w2 hown2 hb2 _ _
             have HO2 : Hid (OwnI w2 wb.heap.size v2 (T ++ [x])) := hide (OwnI.mk' hown2 (by rw [List.length_append, HLv.out]; rfl) (by simp))
             have HB2 := Lib.hid (HB1.out.trans hb2)
             clear hown2 hb2)
          go_roundw
          case rel => exact ⟨k + 1, by omega, by go_num, by rw [HF1.out]; exact HO2.out, HB2.out⟩
          case measure => simp [intOf]; omega
    · obtain rfl : k = n := by omega
      rw [List.take_of_length_le (by rw [HL.out]; exact Nat.le_refl _)] at HOw
      go_wp2_with fail
      go_ret
      exact ⟨_, rfl, HOw.out.mono hl0, HWo.out⟩
end Go.Proofs.Yticoeibccdplaaa
