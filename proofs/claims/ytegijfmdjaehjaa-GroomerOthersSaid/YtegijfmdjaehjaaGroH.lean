/-
  at, nearer, steps of the reference of chapter 45, walked.
-/
import Derived.Test.YtegijfmdjaehjaaGroM
namespace Go.Proofs.Ytegijfmdjaehjaa
open Go.RowKit

set_option maxRecDepth 100000 in
set_option maxHeartbeats 4000000 in
theorem at_any (vn vl vr vb : Value) (nd : List Nd) (i : Int) (w : World) (hm : StrV Nd.cells 2 w w.heap.size vn nd) :
    Calls Try.prog 42 #[.agg #[vn, vl, vr, vb], .int .i64 i] w fun e w' => e = .returned (.int .i64 (atZ nd i)) ∧ Below w.heap.size w w' := by
  obtain ⟨A, n, c, rfl, HL, h1, h2, hr⟩ := hm.nam
  have HR := Lib.hid hr
  have hn : n ≤ maxLen := Nat.le_trans h1 h2
  unfold maxLen at hn
  have H0 : Hid (idxZ (nd.drop 0) i 0 = atZ nd i) := hide rfl
  have HEnd : Hid (idxZ (nd.drop n) i n = -1) := hide (by rw [List.drop_of_length_le (by rw [HL.out]; exact Nat.le_refl _)]; rfl)
  clear hm hr h1 h2
  generalize atZ nd i = al at *
  go_enter Try.func42, Try.ntmps42
  go_wp2_with fail
  have HBwb := (Blk.new w 32 #[.slice A n c, vl, vr, vb])
  have HLwb := (below_new w (.cells #[.slice A n c, vl, vr, vb] 32))
  have hswb : (w.alloc (.cells #[.slice A n c, vl, vr, vb] 32)).heap.size = w.heap.size + 1 := by simp
  generalize w.alloc (.cells #[.slice A n c, vl, vr, vb] 32) = wb at HBwb HLwb hswb ⊢
  replace HBwb := Lib.hid HBwb
  replace HLwb := Lib.hid HLwb
  have hlwb : w.heap.size < wb.heap.size := by omega
  replace hswb := Lib.hid hswb
  have HWb := Lib.hid (HLwb.out)
  have hl0 : w.heap.size ≤ wb.heap.size := HWb.out.size
  have HBb : Hid (Below wb.heap.size wb wb) := hide (Below.refl _ _)
  have hszb : wb.heap.size ≤ wb.heap.size := Nat.le_refl _
  have HX0b : Hid (Blk wb w.heap.size 32 #[.slice A n c, vl, vr, vb]) := hide HBwb.out
  have hxx0 : w.heap.size < wb.heap.size := HX0b.out.lt
  clear HBwb HLwb hswb hlwb
  go_loopw [5] (fun v wr => ∃ k : Nat, k ≤ n ∧ v = .int .i64 k ∧ idxZ (nd.drop k) i k = al ∧ Below wb.heap.size wb wr) (fun v _ => n - (intOf v).toNat)
  case atStart => exact ⟨0, by omega, rfl, H0.out, Below.refl _ _⟩
  case round =>
    obtain ⟨k, hk, rfl, hF, hbr⟩ := hrel
    have HF := Lib.hid hF
    clear hF
    obtain ⟨wo, rfl⟩ : ∃ wo : World, wo = wr := ⟨_, rfl⟩
    have HBo := Lib.hid (HBb.out.trans (hbr.mono hszb))
    have HWo := Lib.hid (HWb.out.trans (hbr.mono HWb.out.size))
    have hszo : wb.heap.size ≤ wo.heap.size := Nat.le_trans hszb hbr.size
    have HX0o := Lib.hid (HX0b.out.below hbr (Nat.lt_of_lt_of_le hxx0 hszb))
    clear hbr
    have m0 : wo.cell? ⟨w.heap.size, 0, none⟩ = some (.slice A n c) := HX0o.out.cell 0
    have m1 : wo.cell? ⟨w.heap.size, 1, none⟩ = some (vl) := HX0o.out.cell 1
    have m2 : wo.cell? ⟨w.heap.size, 2, none⟩ = some (vr) := HX0o.out.cell 2
    have m3 : wo.cell? ⟨w.heap.size, 3, none⟩ = some (vb) := HX0o.out.cell 3
    by_cases hlt : k < n
    · obtain ⟨ad, rfl, hab, hcs⟩ := strs_at (HR.out.below HWo.out) (fun _ => rfl) HL.out hlt nd0
      have HF1 := Lib.hid (HF.out.symm.trans (idxZ_at (by rw [HL.out]; exact hlt))).symm
      generalize nd.getD k nd0 = b at *
      obtain ⟨id, alt⟩ := b
      have f0 : wo.cell? (ad.add (k * 2)) = some (.int .i64 id) := by
        have h := hcs 0 _ rfl
        rwa [show (ad.add (k * 2)).add 0 = ad.add (k * 2) by unfold Addr.add; simp] at h
      simp only at HF1
      clear hcs
      by_cases hid : id = i
      · have HF2 : Hid ((k : Int) = al) := by have h := HF1.out; rw [if_pos hid] at h; exact h
        have d1 : (id == i) = true := beq_iff_eq.2 hid
        clear hid
        go_wp2_with fail
        go_ret
        exact ⟨ret_ig HF2.out, HWo.out⟩
      · have HF2 : Hid (idxZ (nd.drop (k + 1)) i (k + 1) = al) := by have h := HF1.out; rw [if_neg hid] at h; exact h
        have d1 : (id == i) = false := beq_eq_false_iff_ne.2 hid
        clear hid
        go_wp2_with fail
        go_roundw
        case rel => exact ⟨k + 1, by omega, by go_num, HF2.out, HBo.out⟩
        case measure => simp [intOf]; omega
    · obtain rfl : k = n := by omega
      have HF2 : Hid ((-1 : Int) = al) := hide (HEnd.out.symm.trans HF.out)
      go_wp2_with fail
      go_ret
      exact ⟨ret_ig HF2.out, HWo.out⟩

set_option maxRecDepth 100000 in
set_option maxHeartbeats 4000000 in
theorem nearer_any (o f s : Int) (w : World) (ho : -1 ≤ o ∧ o ≤ 1000000000) (hf : -1 ≤ f ∧ f ≤ 1000000000) (hs : 0 ≤ s ∧ s ≤ 20000) :
    Calls Try.prog 44 #[.int .i64 o, .int .i64 f, .int .i64 s] w fun e w' => e = .returned (.int .i64 (nearN o f s)) ∧ w = w' := by
  have HN : Hid (nearN o f s = if f < 0 ∨ (0 ≤ o ∧ o ≤ f + s) then o else f + s) := hide rfl
  generalize nearN o f s = r at *
  go_enter Try.func44, Try.ntmps44
  by_cases h1 : f < 0
  · have d1 : decide (f < 0) = true := decide_eq_true h1
    have H : Hid (r = o) := by show _ = _; rw [HN.out, if_pos (.inl h1)]
    go_wp2_with fail
    go_ret
    exact ⟨ret_ig H.out.symm, rfl⟩
  · have d1 : decide (f < 0) = false := decide_eq_false h1
    by_cases h2 : 0 ≤ o
    · have d2 : decide (0 ≤ o) = true := decide_eq_true h2
      have d2' : decide (o ≥ 0) = true := decide_eq_true h2
      by_cases h3 : o ≤ f + s
      · have d3 : decide (o ≤ f + s) = true := decide_eq_true h3
        have H : Hid (r = o) := by show _ = _; rw [HN.out, if_pos (.inr ⟨h2, h3⟩)]
        go_wp2_with fail
        go_ret
        exact ⟨ret_ig H.out.symm, rfl⟩
      · have d3 : decide (o ≤ f + s) = false := decide_eq_false h3
        have H : Hid (r = f + s) := by show _ = _; rw [HN.out, if_neg (by omega)]
        go_wp2_with fail
        go_ret
        exact ⟨ret_ig H.out.symm, rfl⟩
    · have d2 : decide (0 ≤ o) = false := decide_eq_false h2
      have d2' : decide (o ≥ 0) = false := decide_eq_false h2
      have H : Hid (r = f + s) := by show _ = _; rw [HN.out, if_neg (by omega)]
      go_wp2_with fail
      go_ret
      exact ⟨ret_ig H.out.symm, rfl⟩

set_option maxRecDepth 100000 in
set_option maxHeartbeats 4000000 in
theorem steps_any (vn vl vr vb : Value) (lf : List Lf) (rs : List Rn) (w : World) (hl : StrV Lf.cells 8 w w.heap.size vl lf) (hr : StrV Rn.cells 7 w w.heap.size vr rs) (h1 : lf.length ≤ 32) (h2 : rs.length ≤ 64) :
    Calls Try.prog 43 #[.agg #[vn, vl, vr, vb]] w fun e w' => ∃ v, e = .returned v ∧ OwnS w' w.heap.size v (stS lf rs) ∧ Below w.heap.size w w' := by
  obtain ⟨A, n, c, rfl, HL, hc1, hc2, hl'⟩ := hl.nam
  obtain ⟨Ar, nr, cr, rfl, HLr, hd1, hd2, hr'⟩ := hr.nam
  have HLf := Lib.hid hl'
  have HRs := Lib.hid hr'
  have hn32 : n ≤ 32 := by rw [← HL.out]; exact h1
  have hr64 : nr ≤ 64 := by rw [← HLr.out]; exact h2
  simp only [maxLen] at hc2 hd2
  clear hl hr hl' hr' h1 h2
  go_enter Try.func43, Try.ntmps43
  go_wp2_with fail
  have HBwb := (Blk.new w 32 #[vn, .slice A n c, .slice Ar nr cr, vb])
  have HLwb := (below_new w (.cells #[vn, .slice A n c, .slice Ar nr cr, vb] 32))
  have hswb : (w.alloc (.cells #[vn, .slice A n c, .slice Ar nr cr, vb] 32)).heap.size = w.heap.size + 1 := by simp
  generalize w.alloc (.cells #[vn, .slice A n c, .slice Ar nr cr, vb] 32) = wb at HBwb HLwb hswb ⊢
  replace HBwb := Lib.hid HBwb
  replace HLwb := Lib.hid HLwb
  have hlwb : w.heap.size < wb.heap.size := by omega
  replace hswb := Lib.hid hswb
  have HWb := Lib.hid (HLwb.out)
  have hl0 : w.heap.size ≤ wb.heap.size := HWb.out.size
  have HBb : Hid (Below wb.heap.size wb wb) := hide (Below.refl _ _)
  have hszb : wb.heap.size ≤ wb.heap.size := Nat.le_refl _
  have HX0b : Hid (Blk wb w.heap.size 32 #[vn, .slice A n c, .slice Ar nr cr, vb]) := hide HBwb.out
  have hxx0 : w.heap.size < wb.heap.size := HX0b.out.lt
  clear HBwb HLwb hswb hlwb
  have HLfb := Lib.hid (HLf.out.now HWb.out)
  have HRsb := Lib.hid (HRs.out.now HWb.out)
  go_loopw [3, 4] (fun v i wr => ∃ k : Nat, k ≤ nr ∧ i = .int .i64 k ∧ OwnS wr wb.heap.size v (stR (rs.take k)) ∧ Below wb.heap.size wb wr) (fun _ i _ => nr - (intOf i).toNat)
  case atStart => exact ⟨0, by omega, rfl, OwnS.nil _ _, Below.refl _ _⟩
  case round =>
    obtain ⟨k, hk, rfl, hO, hbr⟩ := hrel
    obtain ⟨Av, nv, cv, rfl, HLv, hv1, hv2, _⟩ := hO.nam
    have HO := Lib.hid (hO.row HLv.out)
    have hnv : nv ≤ 96 := by have h := HLv.out; have h2 := stR_len rs k; omega
    clear hO
    obtain ⟨wo, rfl⟩ : ∃ wo : World, wo = wr := ⟨_, rfl⟩
    have HBo := Lib.hid (HBb.out.trans (hbr.mono hszb))
    have HWo := Lib.hid (HWb.out.trans (hbr.mono HWb.out.size))
    have hszo : wb.heap.size ≤ wo.heap.size := Nat.le_trans hszb hbr.size
    have HX0o := Lib.hid (HX0b.out.below hbr (Nat.lt_of_lt_of_le hxx0 hszb))
    have HLfo := Lib.hid (HLfb.out.now hbr)
    have HRso := Lib.hid (HRsb.out.now hbr)
    clear hbr
    have m0 : wo.cell? ⟨w.heap.size, 0, none⟩ = some (vn) := HX0o.out.cell 0
    have m1 : wo.cell? ⟨w.heap.size, 1, none⟩ = some (.slice A n c) := HX0o.out.cell 1
    have m2 : wo.cell? ⟨w.heap.size, 2, none⟩ = some (.slice Ar nr cr) := HX0o.out.cell 2
    have m3 : wo.cell? ⟨w.heap.size, 3, none⟩ = some (vb) := HX0o.out.cell 3
    by_cases hltnr : k < nr
    · obtain ⟨ad, rfl, hab, hcs⟩ := strs_at (HRsb.out.below HBo.out) (fun _ => rfl) HLr.out hltnr rn0
      have HF1 := Lib.hid (stR_snoc (rs := rs) (by rw [HLr.out]; exact hltnr))
      generalize rs.getD k rn0 = b at *
      obtain ⟨id, op, fr, tt, gr, zn, ln⟩ := b
      simp only at HF1
      clear m0 m1 m2 m3
      have m0 : wo.cell? ⟨w.heap.size, 0, none⟩ = some (vn) := HX0o.out.cell 0
      have m1 : wo.cell? ⟨w.heap.size, 1, none⟩ = some (.slice A n c) := HX0o.out.cell 1
      have m2 : wo.cell? ⟨w.heap.size, 2, none⟩ = some (.slice (some ad) nr cr) := HX0o.out.cell 2
      have m3 : wo.cell? ⟨w.heap.size, 3, none⟩ = some (vb) := HX0o.out.cell 3
      have f_fr : wo.cell? ⟨(ad.add (k * 7)).block, (ad.add (k * 7)).off + 2, none⟩ = some (.int .i64 fr) := hcs 2 _ rfl
      have f_tt : wo.cell? ⟨(ad.add (k * 7)).block, (ad.add (k * 7)).off + 3, none⟩ = some (.int .i64 tt) := hcs 3 _ rfl
      have f_ln : wo.cell? ⟨(ad.add (k * 7)).block, (ad.add (k * 7)).off + 6, none⟩ = some (.int .i64 ln) := hcs 6 _ rfl
      have HS : Hid (∀ W, Below wo.heap.size wo W → (fun W => W.cell? ⟨w.heap.size, 2, none⟩ = some (.slice (some ad) nr cr) ∧ W.cell? ⟨(ad.add (k * 7)).block, (ad.add (k * 7)).off + 2, none⟩ = some (.int .i64 fr) ∧ W.cell? ⟨(ad.add (k * 7)).block, (ad.add (k * 7)).off + 3, none⟩ = some (.int .i64 tt) ∧ W.cell? ⟨(ad.add (k * 7)).block, (ad.add (k * 7)).off + 6, none⟩ = some (.int .i64 ln)) W) := fun W hB => ⟨(HX0o.out.below hB (Nat.lt_of_lt_of_le hxx0 hszo)).cell 2, (hB.cell (by rw [block_of_add]; exact Nat.lt_of_lt_of_le hab hszo)).trans f_fr, (hB.cell (by rw [block_of_add]; exact Nat.lt_of_lt_of_le hab hszo)).trans f_tt, (hB.cell (by rw [block_of_add]; exact Nat.lt_of_lt_of_le hab hszo)).trans f_ln⟩
      have HBd : Hid (Below wo.heap.size wo wo.drew) := hide (Below.refl _ _).drew
      have h0 := HS.out _ HBd.out
      have HOd : Hid (wo.drew.ownsRow wb.heap.size 79 3 (.slice Av nv cv) nv ((stR (rs.take k)).map Sp.cells).flatten) := hide (own_below HO.out HBd.out (Nat.le_refl _))
      clear hcs f_fr f_tt f_ln
      go_wp2_with fail
      clear m0 m1 m2 m3
      refine wp_region_held_drew (S := fun W => W.cell? ⟨w.heap.size, 2, none⟩ = some (.slice (some ad) nr cr) ∧ W.cell? ⟨(ad.add (k * 7)).block, (ad.add (k * 7)).off + 2, none⟩ = some (.int .i64 fr) ∧ W.cell? ⟨(ad.add (k * 7)).block, (ad.add (k * 7)).off + 3, none⟩ = some (.int .i64 tt) ∧ W.cell? ⟨(ad.add (k * 7)).block, (ad.add (k * 7)).off + 6, none⟩ = some (.int .i64 ln)) (by kernel_rfl) (h0) (fun hHeld => ?_)
      refine held_run 0 (some 13) (.move (.tmp 3)) ?v5_1_2 (by rfl) (by kernel_rfl) (by kernel_rfl) (by kernel_rfl) (fun _ _ _ h => h) (fun o ho w hS => ?y5_1_2) (by assumption) ?r5_1_2
      case y5_1_2 => (try dsimp only at hS); unfold execOp; simp only [ho]; go_simp; try with_reducible rfl
      try simp only [Act.put, List.setIfInBounds_toArray, List.set_cons_zero, List.set_cons_succ]
      refine held_run 1 (some 14) (.fieldAddr 32 (.tmp 1) 2) ?v5_1_3 (by rfl) (by kernel_rfl) (by kernel_rfl) (by kernel_rfl) (fun _ _ _ h => h) (fun o ho w hS => ?y5_1_3) (by assumption) ?r5_1_3
      case y5_1_3 => (try dsimp only at hS); unfold execOp; simp only [ho]; go_simp; try with_reducible rfl
      try simp only [Act.put, List.setIfInBounds_toArray, List.set_cons_zero, List.set_cons_succ]
      refine held_run 2 (some 15) (.load 29 (.tmp 14)) ?v5_1_4 (by rfl) (by kernel_rfl) (by kernel_rfl) (by kernel_rfl) (fun _ _ _ h => h) (fun o ho w hS => ?y5_1_4) (by assumption) ?r5_1_4
      case y5_1_4 => (try dsimp only at hS); unfold execOp; simp only [ho]; go_simp; try with_reducible rfl
      try simp only [Act.put, List.setIfInBounds_toArray, List.set_cons_zero, List.set_cons_succ]
      refine held_run 3 (some 16) (.move (.tmp 4)) ?v5_1_5 (by rfl) (by kernel_rfl) (by kernel_rfl) (by kernel_rfl) (fun _ _ _ h => h) (fun o ho w hS => ?y5_1_5) (by assumption) ?r5_1_5
      case y5_1_5 => (try dsimp only at hS); unfold execOp; simp only [ho]; go_simp; try with_reducible rfl
      try simp only [Act.put, List.setIfInBounds_toArray, List.set_cons_zero, List.set_cons_succ]
      refine held_run 4 (some 17) (.indexAddr 29 (.tmp 15) (.tmp 16)) ?v5_1_6 (by rfl) (by kernel_rfl) (by kernel_rfl) (by kernel_rfl) (fun _ _ _ h => h) (fun o ho w hS => ?y5_1_6) (by assumption) ?r5_1_6
      case y5_1_6 => (try dsimp only at hS); unfold execOp; simp only [ho]; go_simp; try with_reducible rfl
      try simp only [Act.put, List.setIfInBounds_toArray, List.set_cons_zero, List.set_cons_succ]
      refine held_run 5 (some 18) (.fieldAddr 56 (.tmp 17) 2) ?v5_1_7 (by rfl) (by kernel_rfl) (by kernel_rfl) (by kernel_rfl) (fun _ _ _ h => h) (fun o ho w hS => ?y5_1_7) (by assumption) ?r5_1_7
      case y5_1_7 => (try dsimp only at hS); unfold execOp; simp only [ho]; go_simp; try with_reducible rfl
      try simp only [Act.put, List.setIfInBounds_toArray, List.set_cons_zero, List.set_cons_succ]
      refine held_run 6 (some 19) (.load 3 (.tmp 18)) ?v5_1_8 (by rfl) (by kernel_rfl) (by kernel_rfl) (by kernel_rfl) (fun _ _ _ h => h) (fun o ho w hS => ?y5_1_8) (by assumption) ?r5_1_8
      case y5_1_8 => (try dsimp only at hS); unfold execOp; simp only [ho]; go_simp; try with_reducible rfl
      try simp only [Act.put, List.setIfInBounds_toArray, List.set_cons_zero, List.set_cons_succ]
      refine held_run 7 (some 20) (.fieldAddr 32 (.tmp 1) 2) ?v5_1_9 (by rfl) (by kernel_rfl) (by kernel_rfl) (by kernel_rfl) (fun _ _ _ h => h) (fun o ho w hS => ?y5_1_9) (by assumption) ?r5_1_9
      case y5_1_9 => (try dsimp only at hS); unfold execOp; simp only [ho]; go_simp; try with_reducible rfl
      try simp only [Act.put, List.setIfInBounds_toArray, List.set_cons_zero, List.set_cons_succ]
      refine held_run 8 (some 21) (.load 29 (.tmp 20)) ?v5_1_10 (by rfl) (by kernel_rfl) (by kernel_rfl) (by kernel_rfl) (fun _ _ _ h => h) (fun o ho w hS => ?y5_1_10) (by assumption) ?r5_1_10
      case y5_1_10 => (try dsimp only at hS); unfold execOp; simp only [ho]; go_simp; try with_reducible rfl
      try simp only [Act.put, List.setIfInBounds_toArray, List.set_cons_zero, List.set_cons_succ]
      refine held_run 9 (some 22) (.move (.tmp 4)) ?v5_1_11 (by rfl) (by kernel_rfl) (by kernel_rfl) (by kernel_rfl) (fun _ _ _ h => h) (fun o ho w hS => ?y5_1_11) (by assumption) ?r5_1_11
      case y5_1_11 => (try dsimp only at hS); unfold execOp; simp only [ho]; go_simp; try with_reducible rfl
      try simp only [Act.put, List.setIfInBounds_toArray, List.set_cons_zero, List.set_cons_succ]
      refine held_run 10 (some 23) (.indexAddr 29 (.tmp 21) (.tmp 22)) ?v5_1_12 (by rfl) (by kernel_rfl) (by kernel_rfl) (by kernel_rfl) (fun _ _ _ h => h) (fun o ho w hS => ?y5_1_12) (by assumption) ?r5_1_12
      case y5_1_12 => (try dsimp only at hS); unfold execOp; simp only [ho]; go_simp; try with_reducible rfl
      try simp only [Act.put, List.setIfInBounds_toArray, List.set_cons_zero, List.set_cons_succ]
      refine held_run 11 (some 24) (.fieldAddr 56 (.tmp 23) 3) ?v5_1_13 (by rfl) (by kernel_rfl) (by kernel_rfl) (by kernel_rfl) (fun _ _ _ h => h) (fun o ho w hS => ?y5_1_13) (by assumption) ?r5_1_13
      case y5_1_13 => (try dsimp only at hS); unfold execOp; simp only [ho]; go_simp; try with_reducible rfl
      try simp only [Act.put, List.setIfInBounds_toArray, List.set_cons_zero, List.set_cons_succ]
      refine held_run 12 (some 25) (.load 3 (.tmp 24)) ?v5_1_14 (by rfl) (by kernel_rfl) (by kernel_rfl) (by kernel_rfl) (fun _ _ _ h => h) (fun o ho w hS => ?y5_1_14) (by assumption) ?r5_1_14
      case y5_1_14 => (try dsimp only at hS); unfold execOp; simp only [ho]; go_simp; try with_reducible rfl
      try simp only [Act.put, List.setIfInBounds_toArray, List.set_cons_zero, List.set_cons_succ]
      refine held_run 13 (some 26) (.fieldAddr 32 (.tmp 1) 2) ?v5_1_15 (by rfl) (by kernel_rfl) (by kernel_rfl) (by kernel_rfl) (fun _ _ _ h => h) (fun o ho w hS => ?y5_1_15) (by assumption) ?r5_1_15
      case y5_1_15 => (try dsimp only at hS); unfold execOp; simp only [ho]; go_simp; try with_reducible rfl
      try simp only [Act.put, List.setIfInBounds_toArray, List.set_cons_zero, List.set_cons_succ]
      refine held_run 14 (some 27) (.load 29 (.tmp 26)) ?v5_1_16 (by rfl) (by kernel_rfl) (by kernel_rfl) (by kernel_rfl) (fun _ _ _ h => h) (fun o ho w hS => ?y5_1_16) (by assumption) ?r5_1_16
      case y5_1_16 => (try dsimp only at hS); unfold execOp; simp only [ho]; go_simp; try with_reducible rfl
      try simp only [Act.put, List.setIfInBounds_toArray, List.set_cons_zero, List.set_cons_succ]
      refine held_run 15 (some 28) (.move (.tmp 4)) ?v5_1_17 (by rfl) (by kernel_rfl) (by kernel_rfl) (by kernel_rfl) (fun _ _ _ h => h) (fun o ho w hS => ?y5_1_17) (by assumption) ?r5_1_17
      case y5_1_17 => (try dsimp only at hS); unfold execOp; simp only [ho]; go_simp; try with_reducible rfl
      try simp only [Act.put, List.setIfInBounds_toArray, List.set_cons_zero, List.set_cons_succ]
      refine held_run 16 (some 29) (.indexAddr 29 (.tmp 27) (.tmp 28)) ?v5_1_18 (by rfl) (by kernel_rfl) (by kernel_rfl) (by kernel_rfl) (fun _ _ _ h => h) (fun o ho w hS => ?y5_1_18) (by assumption) ?r5_1_18
      case y5_1_18 => (try dsimp only at hS); unfold execOp; simp only [ho]; go_simp; try with_reducible rfl
      try simp only [Act.put, List.setIfInBounds_toArray, List.set_cons_zero, List.set_cons_succ]
      refine held_run 17 (some 30) (.fieldAddr 56 (.tmp 29) 6) ?v5_1_19 (by rfl) (by kernel_rfl) (by kernel_rfl) (by kernel_rfl) (fun _ _ _ h => h) (fun o ho w hS => ?y5_1_19) (by assumption) ?r5_1_19
      case y5_1_19 => (try dsimp only at hS); unfold execOp; simp only [ho]; go_simp; try with_reducible rfl
      try simp only [Act.put, List.setIfInBounds_toArray, List.set_cons_zero, List.set_cons_succ]
      refine held_run 18 (some 31) (.load 3 (.tmp 30)) ?v5_1_20 (by rfl) (by kernel_rfl) (by kernel_rfl) (by kernel_rfl) (fun _ _ _ h => h) (fun o ho w hS => ?y5_1_20) (by assumption) ?r5_1_20
      case y5_1_20 => (try dsimp only at hS); unfold execOp; simp only [ho]; go_simp; try with_reducible rfl
      try simp only [Act.put, List.setIfInBounds_toArray, List.set_cons_zero, List.set_cons_succ]
      refine held_run 19 (some 32) (.build 79 #[(0, (.tmp 19)), (1, (.tmp 25)), (2, (.tmp 31))]) ?v5_1_21 (by rfl) (by kernel_rfl) (by kernel_rfl) (by kernel_rfl) (fun _ _ _ h => h) (fun o ho w hS => ?y5_1_21) (by assumption) ?r5_1_21
      case y5_1_21 => (try dsimp only at hS); unfold execOp; simp only [ho]; go_simp; try with_reducible rfl
      try simp only [Act.put, List.setIfInBounds_toArray, List.set_cons_zero, List.set_cons_succ]
      refine held_one 20 (by kernel_rfl) ?_
      refine op_lit 20 (some 33) 76 79 1 #[(0, .tmp 32)] #[.int .i64 fr, .int .i64 tt, .int .i64 ln] (by rfl) (by simp only [List.map_toArray, List.map_cons, List.map_nil]; exact run_lit3 (P := Try.prog) wo.drew 76 79 _ _ _ Try.underlying76 (by kernel_rfl)) ?_
      intro wf hx hb _
      have HBf := Lib.hid (HBd.out.trans (hb.mono HBd.out.size))
      have HLf := Lib.hid hx
      have HOf := Lib.hid (own_below HOd.out hb (Nat.le_refl _))
      have hbase : wb.heap.size ≤ wf.heap.size := Nat.le_trans hszo HBf.out.size
      clear hx hb h0
      have h0 := HS.out _ HBf.out
      refine ⟨h0, ?_⟩
      try simp only [Act.put, List.setIfInBounds_toArray, List.set_cons_zero, List.set_cons_succ]
      refine held_one 21 (by kernel_rfl) ?_
      refine op_app ei_step 21 (some 34) (.tmp 13) (.tmp 33) (by rfl) wb.heap.size _ nv ((stR (rs.take k)).map Sp.cells).flatten rfl (HOf.out) wf.heap.size (some ⟨wo.drew.heap.size, 0, none⟩) 1 1 (Sp.cells ⟨fr, tt, ln⟩) rfl (reads_blk HLf.out rfl) (one_sp _) (by simp only [maxLen]; omega) (by omega) (hbase) ?_
      intro vh wh hown hgr hb _
      have HOx : Hid (OwnS wh wb.heap.size vh ((stR (rs.take k)) ++ [⟨fr, tt, ln⟩])) := hide (OwnS.snoc hown (by rw [HLv.out]) rfl)
      have HBx := Lib.hid (HBo.out.trans ((HBf.out.mono hszo).trans hb))
      have hq : (fun W => W.cell? ⟨w.heap.size, 2, none⟩ = some (.slice (some ad) nr cr) ∧ W.cell? ⟨(ad.add (k * 7)).block, (ad.add (k * 7)).off + 2, none⟩ = some (.int .i64 fr) ∧ W.cell? ⟨(ad.add (k * 7)).block, (ad.add (k * 7)).off + 3, none⟩ = some (.int .i64 tt) ∧ W.cell? ⟨(ad.add (k * 7)).block, (ad.add (k * 7)).off + 6, none⟩ = some (.int .i64 ln)) wh := by
        have hne := row_blk HOf.out (HX0o.out.below HBf.out (Nat.lt_of_lt_of_le hxx0 hszo)) (by decide)
        have hab1 : ad.block < wb.heap.size := hab
        refine ⟨(((HX0o.out.below HBf.out (Nat.lt_of_lt_of_le hxx0 hszo)).grown hgr (Ne.symm hne)).cell 2), (hb.cell (by rw [block_of_add]; exact hab1)).trans h0.2.1, (hb.cell (by rw [block_of_add]; exact hab1)).trans h0.2.2.1, (hb.cell (by rw [block_of_add]; exact hab1)).trans h0.2.2.2⟩
      clear hown hb hgr h0
      refine ⟨hq, ?_⟩
      try simp only [Act.put, List.setIfInBounds_toArray, List.set_cons_zero, List.set_cons_succ]
      refine held_run 22 (some 3) (.assign (.tmp 34)) ?v5_1_24 (by rfl) (by kernel_rfl) (by kernel_rfl) (by kernel_rfl) (fun _ _ _ h => h) (fun o ho w hS => ?y5_1_24) (by assumption) ?r5_1_24
      case y5_1_24 => (try dsimp only at hS); unfold execOp; simp only [ho]; go_simp; try with_reducible rfl
      try simp only [Act.put, List.setIfInBounds_toArray, List.set_cons_zero, List.set_cons_succ]
      refine wpAnyH_done (by kernel_rfl) ?_ _
      go_wp2_with fail
      go_roundw
      case rel => exact ⟨k + 1, by omega, by go_num, by rw [HF1.out]; exact HOx.out, HBx.out⟩
      case measure => simp [intOf]; omega
    · obtain rfl : k = nr := by omega
      have HE1 : Hid (stR (rs.take k) = stR rs) := hide (by rw [List.take_of_length_le (by rw [HLr.out]; exact Nat.le_refl _)])
      have hrl : (stR rs).length ≤ 64 := by have h := stR_len rs k; rw [HE1.out] at h; omega
      rw [HE1.out] at HLv HO
      go_wp2_with fail
      clear m0 m1 m2 m3
      go_loopw [3, 5] (fun v i wr => ∃ q : Nat, q ≤ n ∧ i = .int .i64 q ∧ OwnS wr wb.heap.size v (stR rs ++ stL (lf.take q)) ∧ Below wb.heap.size wb wr) (fun _ i _ => n - (intOf i).toNat)
      case atStart => exact ⟨0, by omega, rfl, by have h := OwnS.mk' HO.out HLv.out; simpa [stL] using h, HBo.out⟩
      case round =>
        clear HBo HWo hszo HX0o HLfo HRso HO HLv
        obtain ⟨q, hk, rfl, hO, hbr⟩ := hrel
        obtain ⟨Av, nv, cv, rfl, HLv, hv1, hv2, _⟩ := hO.nam
        have HO := Lib.hid (hO.row HLv.out)
        have hnv : nv ≤ 96 := by have h := HLv.out; have h2 := stL_len lf q; rw [List.length_append] at h; omega
        clear hO
        obtain ⟨wo, rfl⟩ : ∃ wo : World, wo = wr := ⟨_, rfl⟩
        have HBo := Lib.hid (HBb.out.trans (hbr.mono hszb))
        have HWo := Lib.hid (HWb.out.trans (hbr.mono HWb.out.size))
        have hszo : wb.heap.size ≤ wo.heap.size := Nat.le_trans hszb hbr.size
        have HX0o := Lib.hid (HX0b.out.below hbr (Nat.lt_of_lt_of_le hxx0 hszb))
        have HLfo := Lib.hid (HLfb.out.now hbr)
        have HRso := Lib.hid (HRsb.out.now hbr)
        clear hbr
        have m0 : wo.cell? ⟨w.heap.size, 0, none⟩ = some (vn) := HX0o.out.cell 0
        have m1 : wo.cell? ⟨w.heap.size, 1, none⟩ = some (.slice A n c) := HX0o.out.cell 1
        have m2 : wo.cell? ⟨w.heap.size, 2, none⟩ = some (.slice Ar k cr) := HX0o.out.cell 2
        have m3 : wo.cell? ⟨w.heap.size, 3, none⟩ = some (vb) := HX0o.out.cell 3
        by_cases hltn : q < n
        · obtain ⟨ad, rfl, hab, hcs⟩ := strs_at (HLfb.out.below HBo.out) (fun _ => rfl) HL.out hltn lf0
          have HF1 := Lib.hid ((congrArg (stR rs ++ ·) (stL_snoc (rs := lf) (by rw [HL.out]; exact hltn))).trans (List.append_assoc _ _ _).symm)
          generalize lf.getD q lf0 = b at *
          obtain ⟨id, op, fr, tt, ln, sp, se, sc⟩ := b
          simp only at HF1
          clear m0 m1 m2 m3
          have m0 : wo.cell? ⟨w.heap.size, 0, none⟩ = some (vn) := HX0o.out.cell 0
          have m1 : wo.cell? ⟨w.heap.size, 1, none⟩ = some (.slice (some ad) n c) := HX0o.out.cell 1
          have m2 : wo.cell? ⟨w.heap.size, 2, none⟩ = some (.slice Ar k cr) := HX0o.out.cell 2
          have m3 : wo.cell? ⟨w.heap.size, 3, none⟩ = some (vb) := HX0o.out.cell 3
          have f_fr : wo.cell? ⟨(ad.add (q * 8)).block, (ad.add (q * 8)).off + 2, none⟩ = some (.int .i64 fr) := hcs 2 _ rfl
          have f_tt : wo.cell? ⟨(ad.add (q * 8)).block, (ad.add (q * 8)).off + 3, none⟩ = some (.int .i64 tt) := hcs 3 _ rfl
          have f_ln : wo.cell? ⟨(ad.add (q * 8)).block, (ad.add (q * 8)).off + 4, none⟩ = some (.int .i64 ln) := hcs 4 _ rfl
          have HS : Hid (∀ W, Below wo.heap.size wo W → (fun W => W.cell? ⟨w.heap.size, 1, none⟩ = some (.slice (some ad) n c) ∧ W.cell? ⟨(ad.add (q * 8)).block, (ad.add (q * 8)).off + 2, none⟩ = some (.int .i64 fr) ∧ W.cell? ⟨(ad.add (q * 8)).block, (ad.add (q * 8)).off + 3, none⟩ = some (.int .i64 tt) ∧ W.cell? ⟨(ad.add (q * 8)).block, (ad.add (q * 8)).off + 4, none⟩ = some (.int .i64 ln)) W) := fun W hB => ⟨(HX0o.out.below hB (Nat.lt_of_lt_of_le hxx0 hszo)).cell 1, (hB.cell (by rw [block_of_add]; exact Nat.lt_of_lt_of_le hab hszo)).trans f_fr, (hB.cell (by rw [block_of_add]; exact Nat.lt_of_lt_of_le hab hszo)).trans f_tt, (hB.cell (by rw [block_of_add]; exact Nat.lt_of_lt_of_le hab hszo)).trans f_ln⟩
          have HBd : Hid (Below wo.heap.size wo wo.drew) := hide (Below.refl _ _).drew
          have h0 := HS.out _ HBd.out
          have HOd : Hid (wo.drew.ownsRow wb.heap.size 79 3 (.slice Av nv cv) nv ((stR rs ++ stL (lf.take q)).map Sp.cells).flatten) := hide (own_below HO.out HBd.out (Nat.le_refl _))
          clear hcs f_fr f_tt f_ln
          go_wp2_with fail
          clear m0 m1 m2 m3
          refine wp_region_held_drew (S := fun W => W.cell? ⟨w.heap.size, 1, none⟩ = some (.slice (some ad) n c) ∧ W.cell? ⟨(ad.add (q * 8)).block, (ad.add (q * 8)).off + 2, none⟩ = some (.int .i64 fr) ∧ W.cell? ⟨(ad.add (q * 8)).block, (ad.add (q * 8)).off + 3, none⟩ = some (.int .i64 tt) ∧ W.cell? ⟨(ad.add (q * 8)).block, (ad.add (q * 8)).off + 4, none⟩ = some (.int .i64 ln)) (by kernel_rfl) (h0) (fun hHeld => ?_)
          refine held_run 0 (some 42) (.move (.tmp 3)) ?v9_25_26 (by rfl) (by kernel_rfl) (by kernel_rfl) (by kernel_rfl) (fun _ _ _ h => h) (fun o ho w hS => ?y9_25_26) (by assumption) ?r9_25_26
          case y9_25_26 => (try dsimp only at hS); unfold execOp; simp only [ho]; go_simp; try with_reducible rfl
          try simp only [Act.put, List.setIfInBounds_toArray, List.set_cons_zero, List.set_cons_succ]
          refine held_run 1 (some 43) (.fieldAddr 32 (.tmp 1) 1) ?v9_25_27 (by rfl) (by kernel_rfl) (by kernel_rfl) (by kernel_rfl) (fun _ _ _ h => h) (fun o ho w hS => ?y9_25_27) (by assumption) ?r9_25_27
          case y9_25_27 => (try dsimp only at hS); unfold execOp; simp only [ho]; go_simp; try with_reducible rfl
          try simp only [Act.put, List.setIfInBounds_toArray, List.set_cons_zero, List.set_cons_succ]
          refine held_run 2 (some 44) (.load 28 (.tmp 43)) ?v9_25_28 (by rfl) (by kernel_rfl) (by kernel_rfl) (by kernel_rfl) (fun _ _ _ h => h) (fun o ho w hS => ?y9_25_28) (by assumption) ?r9_25_28
          case y9_25_28 => (try dsimp only at hS); unfold execOp; simp only [ho]; go_simp; try with_reducible rfl
          try simp only [Act.put, List.setIfInBounds_toArray, List.set_cons_zero, List.set_cons_succ]
          refine held_run 3 (some 45) (.move (.tmp 5)) ?v9_25_29 (by rfl) (by kernel_rfl) (by kernel_rfl) (by kernel_rfl) (fun _ _ _ h => h) (fun o ho w hS => ?y9_25_29) (by assumption) ?r9_25_29
          case y9_25_29 => (try dsimp only at hS); unfold execOp; simp only [ho]; go_simp; try with_reducible rfl
          try simp only [Act.put, List.setIfInBounds_toArray, List.set_cons_zero, List.set_cons_succ]
          refine held_run 4 (some 46) (.indexAddr 28 (.tmp 44) (.tmp 45)) ?v9_25_30 (by rfl) (by kernel_rfl) (by kernel_rfl) (by kernel_rfl) (fun _ _ _ h => h) (fun o ho w hS => ?y9_25_30) (by assumption) ?r9_25_30
          case y9_25_30 => (try dsimp only at hS); unfold execOp; simp only [ho]; go_simp; try with_reducible rfl
          try simp only [Act.put, List.setIfInBounds_toArray, List.set_cons_zero, List.set_cons_succ]
          refine held_run 5 (some 47) (.fieldAddr 86 (.tmp 46) 2) ?v9_25_31 (by rfl) (by kernel_rfl) (by kernel_rfl) (by kernel_rfl) (fun _ _ _ h => h) (fun o ho w hS => ?y9_25_31) (by assumption) ?r9_25_31
          case y9_25_31 => (try dsimp only at hS); unfold execOp; simp only [ho]; go_simp; try with_reducible rfl
          try simp only [Act.put, List.setIfInBounds_toArray, List.set_cons_zero, List.set_cons_succ]
          refine held_run 6 (some 48) (.load 3 (.tmp 47)) ?v9_25_32 (by rfl) (by kernel_rfl) (by kernel_rfl) (by kernel_rfl) (fun _ _ _ h => h) (fun o ho w hS => ?y9_25_32) (by assumption) ?r9_25_32
          case y9_25_32 => (try dsimp only at hS); unfold execOp; simp only [ho]; go_simp; try with_reducible rfl
          try simp only [Act.put, List.setIfInBounds_toArray, List.set_cons_zero, List.set_cons_succ]
          refine held_run 7 (some 49) (.fieldAddr 32 (.tmp 1) 1) ?v9_25_33 (by rfl) (by kernel_rfl) (by kernel_rfl) (by kernel_rfl) (fun _ _ _ h => h) (fun o ho w hS => ?y9_25_33) (by assumption) ?r9_25_33
          case y9_25_33 => (try dsimp only at hS); unfold execOp; simp only [ho]; go_simp; try with_reducible rfl
          try simp only [Act.put, List.setIfInBounds_toArray, List.set_cons_zero, List.set_cons_succ]
          refine held_run 8 (some 50) (.load 28 (.tmp 49)) ?v9_25_34 (by rfl) (by kernel_rfl) (by kernel_rfl) (by kernel_rfl) (fun _ _ _ h => h) (fun o ho w hS => ?y9_25_34) (by assumption) ?r9_25_34
          case y9_25_34 => (try dsimp only at hS); unfold execOp; simp only [ho]; go_simp; try with_reducible rfl
          try simp only [Act.put, List.setIfInBounds_toArray, List.set_cons_zero, List.set_cons_succ]
          refine held_run 9 (some 51) (.move (.tmp 5)) ?v9_25_35 (by rfl) (by kernel_rfl) (by kernel_rfl) (by kernel_rfl) (fun _ _ _ h => h) (fun o ho w hS => ?y9_25_35) (by assumption) ?r9_25_35
          case y9_25_35 => (try dsimp only at hS); unfold execOp; simp only [ho]; go_simp; try with_reducible rfl
          try simp only [Act.put, List.setIfInBounds_toArray, List.set_cons_zero, List.set_cons_succ]
          refine held_run 10 (some 52) (.indexAddr 28 (.tmp 50) (.tmp 51)) ?v9_25_36 (by rfl) (by kernel_rfl) (by kernel_rfl) (by kernel_rfl) (fun _ _ _ h => h) (fun o ho w hS => ?y9_25_36) (by assumption) ?r9_25_36
          case y9_25_36 => (try dsimp only at hS); unfold execOp; simp only [ho]; go_simp; try with_reducible rfl
          try simp only [Act.put, List.setIfInBounds_toArray, List.set_cons_zero, List.set_cons_succ]
          refine held_run 11 (some 53) (.fieldAddr 86 (.tmp 52) 3) ?v9_25_37 (by rfl) (by kernel_rfl) (by kernel_rfl) (by kernel_rfl) (fun _ _ _ h => h) (fun o ho w hS => ?y9_25_37) (by assumption) ?r9_25_37
          case y9_25_37 => (try dsimp only at hS); unfold execOp; simp only [ho]; go_simp; try with_reducible rfl
          try simp only [Act.put, List.setIfInBounds_toArray, List.set_cons_zero, List.set_cons_succ]
          refine held_run 12 (some 54) (.load 3 (.tmp 53)) ?v9_25_38 (by rfl) (by kernel_rfl) (by kernel_rfl) (by kernel_rfl) (fun _ _ _ h => h) (fun o ho w hS => ?y9_25_38) (by assumption) ?r9_25_38
          case y9_25_38 => (try dsimp only at hS); unfold execOp; simp only [ho]; go_simp; try with_reducible rfl
          try simp only [Act.put, List.setIfInBounds_toArray, List.set_cons_zero, List.set_cons_succ]
          refine held_run 13 (some 55) (.fieldAddr 32 (.tmp 1) 1) ?v9_25_39 (by rfl) (by kernel_rfl) (by kernel_rfl) (by kernel_rfl) (fun _ _ _ h => h) (fun o ho w hS => ?y9_25_39) (by assumption) ?r9_25_39
          case y9_25_39 => (try dsimp only at hS); unfold execOp; simp only [ho]; go_simp; try with_reducible rfl
          try simp only [Act.put, List.setIfInBounds_toArray, List.set_cons_zero, List.set_cons_succ]
          refine held_run 14 (some 56) (.load 28 (.tmp 55)) ?v9_25_40 (by rfl) (by kernel_rfl) (by kernel_rfl) (by kernel_rfl) (fun _ _ _ h => h) (fun o ho w hS => ?y9_25_40) (by assumption) ?r9_25_40
          case y9_25_40 => (try dsimp only at hS); unfold execOp; simp only [ho]; go_simp; try with_reducible rfl
          try simp only [Act.put, List.setIfInBounds_toArray, List.set_cons_zero, List.set_cons_succ]
          refine held_run 15 (some 57) (.move (.tmp 5)) ?v9_25_41 (by rfl) (by kernel_rfl) (by kernel_rfl) (by kernel_rfl) (fun _ _ _ h => h) (fun o ho w hS => ?y9_25_41) (by assumption) ?r9_25_41
          case y9_25_41 => (try dsimp only at hS); unfold execOp; simp only [ho]; go_simp; try with_reducible rfl
          try simp only [Act.put, List.setIfInBounds_toArray, List.set_cons_zero, List.set_cons_succ]
          refine held_run 16 (some 58) (.indexAddr 28 (.tmp 56) (.tmp 57)) ?v9_25_42 (by rfl) (by kernel_rfl) (by kernel_rfl) (by kernel_rfl) (fun _ _ _ h => h) (fun o ho w hS => ?y9_25_42) (by assumption) ?r9_25_42
          case y9_25_42 => (try dsimp only at hS); unfold execOp; simp only [ho]; go_simp; try with_reducible rfl
          try simp only [Act.put, List.setIfInBounds_toArray, List.set_cons_zero, List.set_cons_succ]
          refine held_run 17 (some 59) (.fieldAddr 86 (.tmp 58) 4) ?v9_25_43 (by rfl) (by kernel_rfl) (by kernel_rfl) (by kernel_rfl) (fun _ _ _ h => h) (fun o ho w hS => ?y9_25_43) (by assumption) ?r9_25_43
          case y9_25_43 => (try dsimp only at hS); unfold execOp; simp only [ho]; go_simp; try with_reducible rfl
          try simp only [Act.put, List.setIfInBounds_toArray, List.set_cons_zero, List.set_cons_succ]
          refine held_run 18 (some 60) (.load 3 (.tmp 59)) ?v9_25_44 (by rfl) (by kernel_rfl) (by kernel_rfl) (by kernel_rfl) (fun _ _ _ h => h) (fun o ho w hS => ?y9_25_44) (by assumption) ?r9_25_44
          case y9_25_44 => (try dsimp only at hS); unfold execOp; simp only [ho]; go_simp; try with_reducible rfl
          try simp only [Act.put, List.setIfInBounds_toArray, List.set_cons_zero, List.set_cons_succ]
          refine held_run 19 (some 61) (.build 79 #[(0, (.tmp 48)), (1, (.tmp 54)), (2, (.tmp 60))]) ?v9_25_45 (by rfl) (by kernel_rfl) (by kernel_rfl) (by kernel_rfl) (fun _ _ _ h => h) (fun o ho w hS => ?y9_25_45) (by assumption) ?r9_25_45
          case y9_25_45 => (try dsimp only at hS); unfold execOp; simp only [ho]; go_simp; try with_reducible rfl
          try simp only [Act.put, List.setIfInBounds_toArray, List.set_cons_zero, List.set_cons_succ]
          refine held_one 20 (by kernel_rfl) ?_
          refine op_lit 20 (some 62) 76 79 1 #[(0, .tmp 61)] #[.int .i64 fr, .int .i64 tt, .int .i64 ln] (by rfl) (by simp only [List.map_toArray, List.map_cons, List.map_nil]; exact run_lit3 (P := Try.prog) wo.drew 76 79 _ _ _ Try.underlying76 (by kernel_rfl)) ?_
          intro wf hx hb _
          have HBf := Lib.hid (HBd.out.trans (hb.mono HBd.out.size))
          have HLf := Lib.hid hx
          have HOf := Lib.hid (own_below HOd.out hb (Nat.le_refl _))
          have hbase : wb.heap.size ≤ wf.heap.size := Nat.le_trans hszo HBf.out.size
          clear hx hb h0
          have h0 := HS.out _ HBf.out
          refine ⟨h0, ?_⟩
          try simp only [Act.put, List.setIfInBounds_toArray, List.set_cons_zero, List.set_cons_succ]
          refine held_one 21 (by kernel_rfl) ?_
          refine op_app ei_step 21 (some 63) (.tmp 42) (.tmp 62) (by rfl) wb.heap.size _ nv ((stR rs ++ stL (lf.take q)).map Sp.cells).flatten rfl (HOf.out) wf.heap.size (some ⟨wo.drew.heap.size, 0, none⟩) 1 1 (Sp.cells ⟨fr, tt, ln⟩) rfl (reads_blk HLf.out rfl) (one_sp _) (by simp only [maxLen]; omega) (by omega) (hbase) ?_
          intro vh wh hown hgr hb _
          have HOx : Hid (OwnS wh wb.heap.size vh ((stR rs ++ stL (lf.take q)) ++ [⟨fr, tt, ln⟩])) := hide (OwnS.snoc hown (by rw [HLv.out]) rfl)
          have HBx := Lib.hid (HBo.out.trans ((HBf.out.mono hszo).trans hb))
          have hq : (fun W => W.cell? ⟨w.heap.size, 1, none⟩ = some (.slice (some ad) n c) ∧ W.cell? ⟨(ad.add (q * 8)).block, (ad.add (q * 8)).off + 2, none⟩ = some (.int .i64 fr) ∧ W.cell? ⟨(ad.add (q * 8)).block, (ad.add (q * 8)).off + 3, none⟩ = some (.int .i64 tt) ∧ W.cell? ⟨(ad.add (q * 8)).block, (ad.add (q * 8)).off + 4, none⟩ = some (.int .i64 ln)) wh := by
            have hne := row_blk HOf.out (HX0o.out.below HBf.out (Nat.lt_of_lt_of_le hxx0 hszo)) (by decide)
            have hab1 : ad.block < wb.heap.size := hab
            refine ⟨(((HX0o.out.below HBf.out (Nat.lt_of_lt_of_le hxx0 hszo)).grown hgr (Ne.symm hne)).cell 1), (hb.cell (by rw [block_of_add]; exact hab1)).trans h0.2.1, (hb.cell (by rw [block_of_add]; exact hab1)).trans h0.2.2.1, (hb.cell (by rw [block_of_add]; exact hab1)).trans h0.2.2.2⟩
          clear hown hb hgr h0
          refine ⟨hq, ?_⟩
          try simp only [Act.put, List.setIfInBounds_toArray, List.set_cons_zero, List.set_cons_succ]
          refine held_run 22 (some 3) (.assign (.tmp 63)) ?v9_25_48 (by rfl) (by kernel_rfl) (by kernel_rfl) (by kernel_rfl) (fun _ _ _ h => h) (fun o ho w hS => ?y9_25_48) (by assumption) ?r9_25_48
          case y9_25_48 => (try dsimp only at hS); unfold execOp; simp only [ho]; go_simp; try with_reducible rfl
          try simp only [Act.put, List.setIfInBounds_toArray, List.set_cons_zero, List.set_cons_succ]
          refine wpAnyH_done (by kernel_rfl) ?_ _
          go_wp2_with fail
          go_roundw
          case rel => exact ⟨q + 1, by omega, by go_num, by rw [HF1.out]; exact HOx.out, HBx.out⟩
          case measure => simp [intOf]; omega
        · obtain rfl : q = n := by omega
          have HE2 : Hid (stR rs ++ stL (lf.take q) = stS lf rs) := hide (by rw [List.take_of_length_le (by rw [HL.out]; exact Nat.le_refl _)]; rfl)
          rw [HE2.out] at HO HLv
          go_wp2_with fail
          go_ret
          refine ⟨_, rfl, ?_, HWo.out⟩
          have h := OwnS.mk' HO.out HLv.out
          exact own_mono h hl0
end Go.Proofs.Ytegijfmdjaehjaa
