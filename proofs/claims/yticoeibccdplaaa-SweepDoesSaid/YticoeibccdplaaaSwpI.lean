/-
  The reference's Right, Next, Order and Done, of chapter 56, walked.
-/
import Derived.Test.YticoeibccdplaaaSwpH
import Derived.Test.YticoeibccdplaaaMatOwn
namespace Go.Proofs.Yticoeibccdplaaa
open Go.RowKit

set_option maxRecDepth 100000 in
set_option maxHeartbeats 4000000 in
theorem rright_any (vn vl vr vb v1 v2 : Value) (bg : Int) (rs : List Rn) (bs runs : List Int) (sw : List Sw) (w : World) (hm : StrV Rn.cells 7 w w.heap.size vr rs) (hb : RowV w w.heap.size vb bs) (hr1 : RowV w w.heap.size v1 runs) (hr2 : StrV Sw.cells 4 w w.heap.size v2 sw) :
    Calls Try.prog 14 #[.agg #[vn, vl, vr, vb], .agg #[v1, v2, .int .i64 bg]] w fun e w' => e = .returned (.int .i64 (rightR rs bs runs bg sw)) ∧ Below w.heap.size w w' := by
  obtain ⟨A1, n1, c1, rfl, HL1, h11, h12, hr1'⟩ := hr1.nam
  have HRv := Lib.hid hr1
  obtain ⟨A, n, c, rfl, HL, h3, h4, hr⟩ := hr2.nam
  have HR1 := Lib.hid hr1'
  have HR := Lib.hid hr
  have HM := Lib.hid hm
  have HBv := Lib.hid hb
  have hn : n ≤ maxLen := Nat.le_trans h3 h4
  have hn1 : n1 ≤ maxLen := Nat.le_trans h11 h12
  have hc1 : c ≤ maxLen := h4
  have hnc : n ≤ c := h3
  unfold maxLen at hn hc1
  have HC : Hid (∀ (x : Int) (k : Nat) (vd : Value) (W : World), StrV Rn.cells 7 W W.heap.size vr rs → RowV W W.heap.size (.slice A1 n1 c1) runs → StrV Sw.cells 4 W W.heap.size vd (sw.take k) → Calls Try.prog 47 #[.agg #[vn, vl, vr, vb], .slice A1 n1 c1, vd, .int .i64 x] W fun e w' => e = .returned (.bool (possB (befR rs) runs ((sw.take k).map Sw.run) x)) ∧ Below W.heap.size W w') := fun x k vd W q1 q2 q3 => rfree_any vn vl vr vb _ vd rs runs (sw.take k) x W q1 q2 q3
  have HC2 : Hid (∀ (r : Int) (W : World), StrV Rn.cells 7 W W.heap.size vr rs → RowV W W.heap.size vb bs → RowV W W.heap.size (.slice A1 n1 c1) runs → runE (hasR rs) (befR rs) (outR rs bs) runs = r → Calls Try.prog 44 #[.agg #[vn, vl, vr, vb], .slice A1 n1 c1] W fun e w' => e = .returned (.int .i64 r) ∧ Below W.heap.size W w') := fun r W q1 q2 q3 q4 => by
    have h := rruns_any vn vl vr vb _ rs bs runs W q1 q2 q3
    rwa [q4] at h
  have hu : rightR rs bs runs bg sw = if 64 < n1 then 4 else if runE (hasR rs) (befR rs) (outR rs bs) runs ≠ 0 then runE (hasR rs) (befR rs) (outR rs bs) runs else if bg < 0 ∨ 20000000 < bg then 2 else errF (chk3 (befR rs) runs bg sw) 0 n := by unfold rightR rightG; rw [HL1.out, HL.out]
  clear hm hb hr1 hr1' hr2 hr h3 h4 h11 h12
  generalize rightR rs bs runs bg sw = r at *
  obtain ⟨re, hre⟩ : ∃ x, runE (hasR rs) (befR rs) (outR rs bs) runs = x := ⟨_, rfl⟩
  rw [hre] at hu
  have HRe := Lib.hid hre
  clear hre
  generalize befR rs = bef at *
  obtain ⟨f, hf⟩ : ∃ f, chk3 bef runs bg sw = f := ⟨_, rfl⟩
  have HV : Hid (∀ k, f k = if runs.contains (sw.getD k sw0).run = false then 8
    else if ((sw.take k).map Sw.run).contains (sw.getD k sw0).run = true then 7
    else if ¬ InS bg (sw.getD k sw0) then 2
    else if (0 < k ∧ (sw.getD k sw0).att < (sw.getD (k - 1) sw0).att) ∨ possB bef runs ((sw.take k).map Sw.run) (sw.getD k sw0).run = false then 11 else 0) := fun k => by rw [← hf]; rfl
  rw [hf] at hu
  clear hf
  have H4 : Hid (64 < n1 → r = 4) := fun h => by rw [hu, if_pos h]
  have H1 : Hid (¬ 64 < n1 → re ≠ 0 → r = re) := fun h h1 => by rw [hu, if_neg h, if_pos h1]
  have H2 : Hid (¬ 64 < n1 → re = 0 → (bg < 0 ∨ 20000000 < bg) → r = 2) := fun h h1 h2 => by rw [hu, if_neg h, if_neg (not_not_intro h1), if_pos h2]
  have H3 : Hid (¬ 64 < n1 → re = 0 → ¬ (bg < 0 ∨ 20000000 < bg) → r = errF f 0 n) := fun h h1 h2 => by rw [hu, if_neg h, if_neg (not_not_intro h1), if_neg h2]
  clear hu
  by_cases h64 : 64 < n1
  · have HZ := Lib.hid (H4.out h64)
    go_enter Try.func14, Try.ntmps14
    go_wp2_with fail
    have HBwz0 := (Blk.new w 27 #[vn, vl, vr, vb])
    have HLwz0 := (below_new w (.cells #[vn, vl, vr, vb] 27))
    have hswz0 : (w.alloc (.cells #[vn, vl, vr, vb] 27)).heap.size = w.heap.size + 1 := by simp
    generalize w.alloc (.cells #[vn, vl, vr, vb] 27) = wz0 at HBwz0 HLwz0 hswz0 ⊢
    replace HBwz0 := Lib.hid HBwz0
    replace HLwz0 := Lib.hid HLwz0
    have hlwz0 : w.heap.size < wz0.heap.size := by omega
    replace hswz0 := Lib.hid hswz0
    have HBwb := (Blk.new wz0 30 #[.slice A1 n1 c1, .slice A n c, .int .i64 bg])
    have HLwb := (below_new wz0 (.cells #[.slice A1 n1 c1, .slice A n c, .int .i64 bg] 30))
    have hswb : (wz0.alloc (.cells #[.slice A1 n1 c1, .slice A n c, .int .i64 bg] 30)).heap.size = wz0.heap.size + 1 := by simp
    generalize wz0.alloc (.cells #[.slice A1 n1 c1, .slice A n c, .int .i64 bg] 30) = wb at HBwb HLwb hswb ⊢
    replace HBwb := Lib.hid HBwb
    replace HLwb := Lib.hid HLwb
    have hlwb : wz0.heap.size < wb.heap.size := by omega
    replace hswb := Lib.hid hswb
    have HQ1 := Lib.hid (HLwz0.out.trans (HLwb.out.mono HLwz0.out.size))
    have HWb := Lib.hid (HQ1.out)
    have hl0 : w.heap.size ≤ wb.heap.size := HWb.out.size
    have HBb : Hid (Below wb.heap.size wb wb) := hide (Below.refl _ _)
    have hszb : wb.heap.size ≤ wb.heap.size := Nat.le_refl _
    have HZ0_1 := Lib.hid (HBwz0.out.below HLwb.out hlwz0)
    have hz0_1 : w.heap.size < wb.heap.size := HZ0_1.out.lt
    have HX0b : Hid (Blk wb w.heap.size 27 #[vn, vl, vr, vb]) := hide HZ0_1.out
    have hxx0 : w.heap.size < wb.heap.size := HX0b.out.lt
    have HX1b : Hid (Blk wb (w.heap.size + 1) 30 #[.slice A1 n1 c1, .slice A n c, .int .i64 bg]) := hide (by have h := HBwb.out; rw [show wz0.heap.size = w.heap.size + 1 from by have := hswz0.out; omega] at h; exact h)
    have hxx1 : (w.heap.size + 1) < wb.heap.size := HX1b.out.lt
    clear HBwz0 HLwz0 hswz0 hlwz0
    clear HBwb HLwb hswb hlwb
    go_ret
    exact ⟨ret_i HZ.out.symm, HWb.out⟩
  go_enter Try.func14, Try.ntmps14
  go_wp2_with fail
  have HBwz0 := (Blk.new w 27 #[vn, vl, vr, vb])
  have HLwz0 := (below_new w (.cells #[vn, vl, vr, vb] 27))
  have hswz0 : (w.alloc (.cells #[vn, vl, vr, vb] 27)).heap.size = w.heap.size + 1 := by simp
  generalize w.alloc (.cells #[vn, vl, vr, vb] 27) = wz0 at HBwz0 HLwz0 hswz0 ⊢
  replace HBwz0 := Lib.hid HBwz0
  replace HLwz0 := Lib.hid HLwz0
  have hlwz0 : w.heap.size < wz0.heap.size := by omega
  replace hswz0 := Lib.hid hswz0
  have HBwb := (Blk.new wz0 30 #[.slice A1 n1 c1, .slice A n c, .int .i64 bg])
  have HLwb := (below_new wz0 (.cells #[.slice A1 n1 c1, .slice A n c, .int .i64 bg] 30))
  have hswb : (wz0.alloc (.cells #[.slice A1 n1 c1, .slice A n c, .int .i64 bg] 30)).heap.size = wz0.heap.size + 1 := by simp
  generalize wz0.alloc (.cells #[.slice A1 n1 c1, .slice A n c, .int .i64 bg] 30) = wb at HBwb HLwb hswb ⊢
  replace HBwb := Lib.hid HBwb
  replace HLwb := Lib.hid HLwb
  have hlwb : wz0.heap.size < wb.heap.size := by omega
  replace hswb := Lib.hid hswb
  have HQ1 := Lib.hid (HLwz0.out.trans (HLwb.out.mono HLwz0.out.size))
  have HWb := Lib.hid (HQ1.out)
  have hl0 : w.heap.size ≤ wb.heap.size := HWb.out.size
  have HBb : Hid (Below wb.heap.size wb wb) := hide (Below.refl _ _)
  have hszb : wb.heap.size ≤ wb.heap.size := Nat.le_refl _
  have HZ0_1 := Lib.hid (HBwz0.out.below HLwb.out hlwz0)
  have hz0_1 : w.heap.size < wb.heap.size := HZ0_1.out.lt
  have HX0b : Hid (Blk wb w.heap.size 27 #[vn, vl, vr, vb]) := hide HZ0_1.out
  have hxx0 : w.heap.size < wb.heap.size := HX0b.out.lt
  have HX1b : Hid (Blk wb (w.heap.size + 1) 30 #[.slice A1 n1 c1, .slice A n c, .int .i64 bg]) := hide (by have h := HBwb.out; rw [show wz0.heap.size = w.heap.size + 1 from by have := hswz0.out; omega] at h; exact h)
  have hxx1 : (w.heap.size + 1) < wb.heap.size := HX1b.out.lt
  clear HBwz0 HLwz0 hswz0 hlwz0
  clear HBwb HLwb hswb hlwb
  have HMb := Lib.hid (HM.out.now HWb.out)
  have HR1b := Lib.hid (HR1.out.now HWb.out)
  have HRb := Lib.hid (HR.out.now HWb.out)
  have HBvb := Lib.hid (HBv.out.now HWb.out)
  have HRvb := Lib.hid (HRv.out.now HWb.out)
  have s0 : wb.cell? ⟨w.heap.size + 1, 0, none⟩ = some (.slice A1 n1 c1) := HX1b.out.cell 0
  have s1 : wb.cell? ⟨w.heap.size + 1, 1, none⟩ = some (.slice A n c) := HX1b.out.cell 1
  have s2 : wb.cell? ⟨w.heap.size + 1, 2, none⟩ = some (.int .i64 bg) := HX1b.out.cell 2
  go_wp2_with
    (first
     | (refine wpList_load_g 27 (.tmp 2) rfl rfl w.heap.size rfl _ _ HX0b.out _ Try.underlying27 rfl (by kernel_rfl) ?_))
  clear s0 s1 s2
  with_reducible refine (HC2.out re _ HMb.out HBvb.out HRvb.out HRe.out).mono ?_
  rintro e w1 ⟨rfl, hb1⟩
  have HB1 := Lib.hid (HBb.out.trans (hb1.mono hszb))
  have HW1 := Lib.hid (HWb.out.trans (hb1.mono HWb.out.size))
  have hsz1 : wb.heap.size ≤ w1.heap.size := Nat.le_trans hszb hb1.size
  have HX01 := Lib.hid (HX0b.out.below hb1 (Nat.lt_of_lt_of_le hxx0 hszb))
  have HX11 := Lib.hid (HX1b.out.below hb1 (Nat.lt_of_lt_of_le hxx1 hszb))
  have HM1 := Lib.hid (HMb.out.now hb1)
  have HR11 := Lib.hid (HR1b.out.now hb1)
  have HR1 := Lib.hid (HRb.out.now hb1)
  have HBv1 := Lib.hid (HBvb.out.now hb1)
  have HRv1 := Lib.hid (HRvb.out.now hb1)
  clear hb1
  have s0 : w1.cell? ⟨w.heap.size + 1, 0, none⟩ = some (.slice A1 n1 c1) := HX11.out.cell 0
  have s1 : w1.cell? ⟨w.heap.size + 1, 1, none⟩ = some (.slice A n c) := HX11.out.cell 1
  have s2 : w1.cell? ⟨w.heap.size + 1, 2, none⟩ = some (.int .i64 bg) := HX11.out.cell 2
  by_cases he : re = 0
  rotate_left
  · have HZ := Lib.hid (H1.out h64 he)
    have d1 : (re == 0) = false := beq_eq_false_iff_ne.2 he
    go_wp2_with fail
    go_ret
    exact ⟨ret_i HZ.out.symm, HW1.out⟩
  subst he
  go_wp2_with fail
  by_cases hbg : bg < 0 ∨ 20000000 < bg
  · have HZ := Lib.hid (H2.out h64 (by first | rfl | trivial) hbg)
    with_reducible refine (rin_any bg 0 20000000 false _ (by simp only [Bool.and_eq_false_iff, decide_eq_false_iff_not]; omega)).mono ?_
    rintro e w' ⟨rfl, rfl⟩
    go_wp2_with fail
    go_ret
    exact ⟨ret_i HZ.out.symm, HW1.out⟩
  with_reducible refine (rin_any bg 0 20000000 true _ (by simp only [Bool.and_eq_true, decide_eq_true_eq]; omega)).mono ?_
  rintro e w' ⟨rfl, rfl⟩
  have HF0 := Lib.hid (H3.out h64 (by first | rfl | trivial) hbg)
  go_wp2_with fail
  clear s0 s1 s2 hbg
  go_loopw [6] (fun i wr => ∃ k : Nat, k ≤ n ∧ i = .int .i64 k ∧ r = errF f k (n - k) ∧ Below wb.heap.size wb wr) (fun i _ => n - (intOf i).toNat)
  case atStart => exact ⟨0, by omega, rfl, HF0.out, HB1.out⟩
  case round =>
    obtain ⟨k, hk, rfl, hF, hbr⟩ := hrel
    have HF := Lib.hid hF
    clear hF HM1 HR11 HBv1 HRv1 HB1 HW1 HX01 HX11 hsz1
    obtain ⟨wo, rfl⟩ : ∃ wo : World, wo = wr := ⟨_, rfl⟩
    have HBo := Lib.hid (HBb.out.trans (hbr.mono hszb))
    have HWo := Lib.hid (HWb.out.trans (hbr.mono HWb.out.size))
    have hszo : wb.heap.size ≤ wo.heap.size := Nat.le_trans hszb hbr.size
    have HX0o := Lib.hid (HX0b.out.below hbr (Nat.lt_of_lt_of_le hxx0 hszb))
    have HX1o := Lib.hid (HX1b.out.below hbr (Nat.lt_of_lt_of_le hxx1 hszb))
    have HMo := Lib.hid (HMb.out.now hbr)
    have HR1o := Lib.hid (HR1b.out.now hbr)
    have HRo := Lib.hid (HRb.out.now hbr)
    have HBvo := Lib.hid (HBvb.out.now hbr)
    have HRvo := Lib.hid (HRvb.out.now hbr)
    clear hbr
    have s0 : wo.cell? ⟨w.heap.size + 1, 0, none⟩ = some (.slice A1 n1 c1) := HX1o.out.cell 0
    have s1 : wo.cell? ⟨w.heap.size + 1, 1, none⟩ = some (.slice A n c) := HX1o.out.cell 1
    have s2 : wo.cell? ⟨w.heap.size + 1, 2, none⟩ = some (.int .i64 bg) := HX1o.out.cell 2
    by_cases hlt : k < n
    rotate_left
    · obtain rfl : k = n := by omega
      have HZ : Hid (r = 0) := by have h := HF.out; rw [Nat.sub_self] at h; exact hide h
      go_wp2_with fail
      go_ret
      exact ⟨ret_i HZ.out.symm, HWo.out⟩
    obtain ⟨ad, rfl, hab, hcs⟩ := strs_at HRo.out (fun _ => rfl) HL.out hlt sw0
    have HVk := Lib.hid (HV.out k)
    have HYes : Hid (f k ≠ 0 → r = f k) := fun h => HF.out.trans (errF_yes hlt h)
    have HNo : Hid (f k = 0 → r = errF f (k + 1) (n - (k + 1))) := fun h => HF.out.trans (errF_no hlt h)
    have HPrev : Hid (∀ k', k = k' + 1 → ∀ j u, (Sw.cells (sw.getD k' sw0))[j]? = some u → wo.cell? ((ad.add (k' * 4)).add j) = some u) := fun k' hk' j u hu => by
      obtain ⟨ad', had, _, hcs'⟩ := strs_at HRo.out (fun _ => rfl) HL.out (show k' < n by omega) sw0
      injection had with had
      subst had
      exact hcs' j u hu
    generalize sw.getD k sw0 = q at *
    obtain ⟨run, byy, att, fnd⟩ := q
    have HCs : Hid (∀ j u, ([.int .i64 run, .int .i64 byy, .int .i64 att, .int .i64 fnd] : List Value)[j]? = some u → wo.cell? ((ad.add (k * 4)).add j) = some u) := hcs
    clear hcs
    obtain ⟨poss, hposs⟩ : ∃ x, possB bef runs ((sw.take k).map Sw.run) run = x := ⟨_, rfl⟩
    have HP := Lib.hid hposs
    obtain ⟨cr, hcr⟩ : ∃ x, runs.contains run = x := ⟨_, rfl⟩
    have HCr := Lib.hid hcr
    obtain ⟨ct, hct⟩ : ∃ x, ((sw.take k).map Sw.run).contains run = x := ⟨_, rfl⟩
    have HCt := Lib.hid hct
    simp only at HVk
    rw [hposs, hcr, hct] at HVk
    clear hposs hcr hct s0 s1 s2
    have hkc2 : (k : Int) ≤ (c : Int) := by omega
    have s0 : wo.cell? ⟨w.heap.size + 1, 0, none⟩ = some (.slice A1 n1 c1) := HX1o.out.cell 0
    have s1 : wo.cell? ⟨w.heap.size + 1, 1, none⟩ = some (.slice (some ad) n c) := HX1o.out.cell 1
    have s2 : wo.cell? ⟨w.heap.size + 1, 2, none⟩ = some (.int .i64 bg) := HX1o.out.cell 2
    cases cr with
    | false =>
      have HZ : Hid (r = 8) := hide (by have h : f k = 8 := HVk.out; rw [HYes.out (by rw [h]; decide), h])
      go_wp2_with
        (first
         | (refine wpList_load_at 39 (.tmp 33) rfl rfl (ad.add (k * 4)) rfl [.int .i64 run, .int .i64 byy, .int .i64 att, .int .i64 fnd] HCs.out _ Try.underlying39 rfl (by kernel_rfl) ?_)
         | (refine wpList_store_blk rfl 39 (.tmp 7) (.tmp 34) rfl wo.heap.size #[.int .i64 run, .int .i64 byy, .int .i64 att, .int .i64 fnd] rfl rfl _ _ (Blk.new wo 39 #[.int .i64 0, .int .i64 0, .int .i64 0, .int .i64 0]) (by kernel_rfl) rfl (by simp [Value.oneCell']) ?_
            intro w1 hx1 hon1
            have hb1 := hon1.below (below_new wo (.cells #[.int .i64 0, .int .i64 0, .int .i64 0, .int .i64 0] 39)) (Nat.le_refl _)
            have HY1 := Lib.hid hx1
            have HWp := Lib.hid hb1
            have hly1 : wo.heap.size < w1.heap.size := hx1.lt
            have HB1 := Lib.hid (HBo.out.trans (hb1.mono hszo))
            have HW1 := Lib.hid (HWo.out.trans (hb1.mono HWo.out.size))
            have hsz1 : wb.heap.size ≤ w1.heap.size := Nat.le_trans hszo hb1.size
            have HX01 := Lib.hid (HX0o.out.below hb1 (Nat.lt_of_lt_of_le hxx0 hszo))
            have HX11 := Lib.hid (HX1o.out.below hb1 (Nat.lt_of_lt_of_le hxx1 hszo))
            have HM1 := Lib.hid (HMo.out.now hb1)
            have HR11 := Lib.hid (HR1o.out.now hb1)
            have HR1 := Lib.hid (HRo.out.now hb1)
            have HBv1 := Lib.hid (HBvo.out.now hb1)
            have HRv1 := Lib.hid (HRvo.out.now hb1)
            clear s0 s1 s2
            have e0 : w1.cell? ⟨wo.heap.size, 0, none⟩ = some (.int .i64 run) := HY1.out.cell 0
            have e1 : w1.cell? ⟨wo.heap.size, 1, none⟩ = some (.int .i64 byy) := HY1.out.cell 1
            have e2 : w1.cell? ⟨wo.heap.size, 2, none⟩ = some (.int .i64 att) := HY1.out.cell 2
            have e3 : w1.cell? ⟨wo.heap.size, 3, none⟩ = some (.int .i64 fnd) := HY1.out.cell 3
            have s0 : w1.cell? ⟨w.heap.size + 1, 0, none⟩ = some (.slice A1 n1 c1) := HX11.out.cell 0
            have s1 : w1.cell? ⟨w.heap.size + 1, 1, none⟩ = some (.slice (some ad) n c) := HX11.out.cell 1
            have s2 : w1.cell? ⟨w.heap.size + 1, 2, none⟩ = some (.int .i64 bg) := HX11.out.cell 2
            clear hx1 hon1 hb1))
      with_reducible refine (rhas_any _ n1 c1 _ runs run false _ HR11.out hn1 HCr.out).mono ?_
      rintro e w' ⟨rfl, rfl⟩
      go_wp2_with fail
      go_ret
      exact ⟨ret_i HZ.out.symm, HW1.out⟩
    | true =>
      go_wp2_with
        (first
         | (refine wpList_load_at 39 (.tmp 33) rfl rfl (ad.add (k * 4)) rfl [.int .i64 run, .int .i64 byy, .int .i64 att, .int .i64 fnd] HCs.out _ Try.underlying39 rfl (by kernel_rfl) ?_)
         | (refine wpList_store_blk rfl 39 (.tmp 7) (.tmp 34) rfl wo.heap.size #[.int .i64 run, .int .i64 byy, .int .i64 att, .int .i64 fnd] rfl rfl _ _ (Blk.new wo 39 #[.int .i64 0, .int .i64 0, .int .i64 0, .int .i64 0]) (by kernel_rfl) rfl (by simp [Value.oneCell']) ?_
            intro w1 hx1 hon1
            have hb1 := hon1.below (below_new wo (.cells #[.int .i64 0, .int .i64 0, .int .i64 0, .int .i64 0] 39)) (Nat.le_refl _)
            have HY1 := Lib.hid hx1
            have HWp := Lib.hid hb1
            have hly1 : wo.heap.size < w1.heap.size := hx1.lt
            have HB1 := Lib.hid (HBo.out.trans (hb1.mono hszo))
            have HW1 := Lib.hid (HWo.out.trans (hb1.mono HWo.out.size))
            have hsz1 : wb.heap.size ≤ w1.heap.size := Nat.le_trans hszo hb1.size
            have HX01 := Lib.hid (HX0o.out.below hb1 (Nat.lt_of_lt_of_le hxx0 hszo))
            have HX11 := Lib.hid (HX1o.out.below hb1 (Nat.lt_of_lt_of_le hxx1 hszo))
            have HM1 := Lib.hid (HMo.out.now hb1)
            have HR11 := Lib.hid (HR1o.out.now hb1)
            have HR1 := Lib.hid (HRo.out.now hb1)
            have HBv1 := Lib.hid (HBvo.out.now hb1)
            have HRv1 := Lib.hid (HRvo.out.now hb1)
            clear s0 s1 s2
            have e0 : w1.cell? ⟨wo.heap.size, 0, none⟩ = some (.int .i64 run) := HY1.out.cell 0
            have e1 : w1.cell? ⟨wo.heap.size, 1, none⟩ = some (.int .i64 byy) := HY1.out.cell 1
            have e2 : w1.cell? ⟨wo.heap.size, 2, none⟩ = some (.int .i64 att) := HY1.out.cell 2
            have e3 : w1.cell? ⟨wo.heap.size, 3, none⟩ = some (.int .i64 fnd) := HY1.out.cell 3
            have s0 : w1.cell? ⟨w.heap.size + 1, 0, none⟩ = some (.slice A1 n1 c1) := HX11.out.cell 0
            have s1 : w1.cell? ⟨w.heap.size + 1, 1, none⟩ = some (.slice (some ad) n c) := HX11.out.cell 1
            have s2 : w1.cell? ⟨w.heap.size + 1, 2, none⟩ = some (.int .i64 bg) := HX11.out.cell 2
            clear hx1 hon1 hb1))
      with_reducible refine (rhas_any _ n1 c1 _ runs run true _ HR11.out hn1 HCr.out).mono ?_
      rintro e w' ⟨rfl, rfl⟩
      go_wp2_with fail
      have hfr : StrV Sw.cells 4 w1 w1.heap.size (.slice (some ad) k c) (sw.take k) := strV_of (strs_front HR1.out (fun _ => rfl) HL.out hk) (by rw [List.length_take, HL.out]; omega) (by omega) (by unfold maxLen; omega)
      have HFr := Lib.hid hfr
      have HFd : Hid (StrV Sw.cells 4 w1.drew w1.drew.heap.size (.slice (some ad) k c) (sw.take k)) := hide hfr
      clear hfr
      cases ct with
      | true =>
        have HZ : Hid (r = 7) := hide (by have h : f k = 7 := HVk.out; rw [HYes.out (by rw [h]; decide), h])
        refine wp_region_held_drew (S := fun W => W.cell? ⟨w.heap.size + 1, 1, none⟩ = some (.slice (some ad) n c) ∧ W.cell? ⟨wo.heap.size, 0, none⟩ = some (.int .i64 run)) (by kernel_rfl) (⟨s1, e0⟩) (fun hHeld => ?_)
        refine held_run 0 (some 43) (.fieldAddr 30 (.tmp 3) 1) ?v14_1_2 (by rfl) (by kernel_rfl) (by kernel_rfl) (by kernel_rfl) (fun _ _ _ h => h) (fun o ho w hS => ?y14_1_2) (by assumption) ?r14_1_2
        case y14_1_2 => (try dsimp only at hS); unfold execOp; simp only [ho]; go_simp; try with_reducible rfl
        try simp only [Act.put, List.setIfInBounds_toArray, List.set_cons_zero, List.set_cons_succ]
        refine held_run 1 (some 44) (.load 28 (.tmp 43)) ?v14_1_3 (by rfl) (by kernel_rfl) (by kernel_rfl) (by kernel_rfl) (fun _ _ _ h => h) (fun o ho w hS => ?y14_1_3) (by assumption) ?r14_1_3
        case y14_1_3 => (try dsimp only at hS); unfold execOp; simp only [ho]; go_simp; try with_reducible rfl
        try simp only [Act.put, List.setIfInBounds_toArray, List.set_cons_zero, List.set_cons_succ]
        refine held_run 2 (some 45) (.move (.tmp 6)) ?v14_1_4 (by rfl) (by kernel_rfl) (by kernel_rfl) (by kernel_rfl) (fun _ _ _ h => h) (fun o ho w hS => ?y14_1_4) (by assumption) ?r14_1_4
        case y14_1_4 => (try dsimp only at hS); unfold execOp; simp only [ho]; go_simp; try with_reducible rfl
        try simp only [Act.put, List.setIfInBounds_toArray, List.set_cons_zero, List.set_cons_succ]
        refine held_run 3 (some 46) (.slice 28 (.tmp 44) none (some (.tmp 45)) none) ?v14_1_5 (by rfl) (by kernel_rfl) (by kernel_rfl) (by kernel_rfl) (fun _ _ _ h => h) (fun o ho w hS => ?y14_1_5) (by assumption) ?r14_1_5
        case y14_1_5 => (try dsimp only at hS); unfold execOp; simp only [ho]; go_simp; try with_reducible rfl
        try simp only [Act.put, List.setIfInBounds_toArray, List.set_cons_zero, List.set_cons_succ]
        refine held_run 4 (some 47) (.fieldAddr 39 (.tmp 7) 0) ?v14_1_6 (by rfl) (by kernel_rfl) (by kernel_rfl) (by kernel_rfl) (fun _ _ _ h => h) (fun o ho w hS => ?y14_1_6) (by assumption) ?r14_1_6
        case y14_1_6 => (try dsimp only at hS); unfold execOp; simp only [ho]; go_simp; try with_reducible rfl
        try simp only [Act.put, List.setIfInBounds_toArray, List.set_cons_zero, List.set_cons_succ]
        refine held_run 5 (some 48) (.load 3 (.tmp 47)) ?v14_1_7 (by rfl) (by kernel_rfl) (by kernel_rfl) (by kernel_rfl) (fun _ _ _ h => h) (fun o ho w hS => ?y14_1_7) (by assumption) ?r14_1_7
        case y14_1_7 => (try dsimp only at hS); unfold execOp; simp only [ho]; go_simp; try with_reducible rfl
        try simp only [Act.put, List.setIfInBounds_toArray, List.set_cons_zero, List.set_cons_succ]
        refine held_call 6 (some 49) 46 [(.tmp 46), (.tmp 48)] #[28, 3] #[.slice (some ad) k c, .int .i64 run] (by rfl) (by rfl) (by kernel_rfl) Try.func46 (by rfl) (by rfl) ?_
        refine (rswept_any _ _ (sw.take k) run true _ HFd.out HCt.out).mono ?_
        rintro e w' ⟨rfl, rfl⟩
        refine ⟨_, rfl, ⟨s1, e0⟩, ?_⟩
        try simp only [Act.put, List.setIfInBounds_toArray, List.set_cons_zero, List.set_cons_succ]
        refine held_run 7 (some 42) (.assign (.tmp 49)) ?v14_1_9 (by rfl) (by kernel_rfl) (by kernel_rfl) (by kernel_rfl) (fun _ _ _ h => h) (fun o ho w hS => ?y14_1_9) (by assumption) ?r14_1_9
        case y14_1_9 => (try dsimp only at hS); unfold execOp; simp only [ho]; go_simp; try with_reducible rfl
        try simp only [Act.put, List.setIfInBounds_toArray, List.set_cons_zero, List.set_cons_succ]
        refine wpAnyH_done (by kernel_rfl) ?_ _
        go_wp2_with fail
        go_ret
        exact ⟨ret_i HZ.out.symm, HW1.out.drew⟩
      | false =>
        refine wp_region_held_drew (S := fun W => W.cell? ⟨w.heap.size + 1, 1, none⟩ = some (.slice (some ad) n c) ∧ W.cell? ⟨wo.heap.size, 0, none⟩ = some (.int .i64 run)) (by kernel_rfl) (⟨s1, e0⟩) (fun hHeld => ?_)
        refine held_run 0 (some 43) (.fieldAddr 30 (.tmp 3) 1) ?v14_10_11 (by rfl) (by kernel_rfl) (by kernel_rfl) (by kernel_rfl) (fun _ _ _ h => h) (fun o ho w hS => ?y14_10_11) (by assumption) ?r14_10_11
        case y14_10_11 => (try dsimp only at hS); unfold execOp; simp only [ho]; go_simp; try with_reducible rfl
        try simp only [Act.put, List.setIfInBounds_toArray, List.set_cons_zero, List.set_cons_succ]
        refine held_run 1 (some 44) (.load 28 (.tmp 43)) ?v14_10_12 (by rfl) (by kernel_rfl) (by kernel_rfl) (by kernel_rfl) (fun _ _ _ h => h) (fun o ho w hS => ?y14_10_12) (by assumption) ?r14_10_12
        case y14_10_12 => (try dsimp only at hS); unfold execOp; simp only [ho]; go_simp; try with_reducible rfl
        try simp only [Act.put, List.setIfInBounds_toArray, List.set_cons_zero, List.set_cons_succ]
        refine held_run 2 (some 45) (.move (.tmp 6)) ?v14_10_13 (by rfl) (by kernel_rfl) (by kernel_rfl) (by kernel_rfl) (fun _ _ _ h => h) (fun o ho w hS => ?y14_10_13) (by assumption) ?r14_10_13
        case y14_10_13 => (try dsimp only at hS); unfold execOp; simp only [ho]; go_simp; try with_reducible rfl
        try simp only [Act.put, List.setIfInBounds_toArray, List.set_cons_zero, List.set_cons_succ]
        refine held_run 3 (some 46) (.slice 28 (.tmp 44) none (some (.tmp 45)) none) ?v14_10_14 (by rfl) (by kernel_rfl) (by kernel_rfl) (by kernel_rfl) (fun _ _ _ h => h) (fun o ho w hS => ?y14_10_14) (by assumption) ?r14_10_14
        case y14_10_14 => (try dsimp only at hS); unfold execOp; simp only [ho]; go_simp; try with_reducible rfl
        try simp only [Act.put, List.setIfInBounds_toArray, List.set_cons_zero, List.set_cons_succ]
        refine held_run 4 (some 47) (.fieldAddr 39 (.tmp 7) 0) ?v14_10_15 (by rfl) (by kernel_rfl) (by kernel_rfl) (by kernel_rfl) (fun _ _ _ h => h) (fun o ho w hS => ?y14_10_15) (by assumption) ?r14_10_15
        case y14_10_15 => (try dsimp only at hS); unfold execOp; simp only [ho]; go_simp; try with_reducible rfl
        try simp only [Act.put, List.setIfInBounds_toArray, List.set_cons_zero, List.set_cons_succ]
        refine held_run 5 (some 48) (.load 3 (.tmp 47)) ?v14_10_16 (by rfl) (by kernel_rfl) (by kernel_rfl) (by kernel_rfl) (fun _ _ _ h => h) (fun o ho w hS => ?y14_10_16) (by assumption) ?r14_10_16
        case y14_10_16 => (try dsimp only at hS); unfold execOp; simp only [ho]; go_simp; try with_reducible rfl
        try simp only [Act.put, List.setIfInBounds_toArray, List.set_cons_zero, List.set_cons_succ]
        refine held_call 6 (some 49) 46 [(.tmp 46), (.tmp 48)] #[28, 3] #[.slice (some ad) k c, .int .i64 run] (by rfl) (by rfl) (by kernel_rfl) Try.func46 (by rfl) (by rfl) ?_
        refine (rswept_any _ _ (sw.take k) run false _ HFd.out HCt.out).mono ?_
        rintro e w' ⟨rfl, rfl⟩
        refine ⟨_, rfl, ⟨s1, e0⟩, ?_⟩
        try simp only [Act.put, List.setIfInBounds_toArray, List.set_cons_zero, List.set_cons_succ]
        refine held_run 7 (some 42) (.assign (.tmp 49)) ?v14_10_18 (by rfl) (by kernel_rfl) (by kernel_rfl) (by kernel_rfl) (fun _ _ _ h => h) (fun o ho w hS => ?y14_10_18) (by assumption) ?r14_10_18
        case y14_10_18 => (try dsimp only at hS); unfold execOp; simp only [ho]; go_simp; try with_reducible rfl
        try simp only [Act.put, List.setIfInBounds_toArray, List.set_cons_zero, List.set_cons_succ]
        refine wpAnyH_done (by kernel_rfl) ?_ _
        have HWpd : Hid (Below wo.heap.size wo w1.drew) := hide HWp.out.drew
        have HYd : Hid (Blk w1.drew wo.heap.size 39 #[.int .i64 run, .int .i64 byy, .int .i64 att, .int .i64 fnd]) := hide HY1.out
        have hlyd : wo.heap.size < w1.drew.heap.size := hly1
        clear e0 e1 e2 e3 s0 s1 s2
        have hwd : Below w1.heap.size w1 w1.drew := (Below.refl _ _).drew
        have HB2 := Lib.hid (HB1.out.trans (hwd.mono hsz1))
        have HW2 := Lib.hid (HW1.out.trans (hwd.mono HW1.out.size))
        have hsz2 : wb.heap.size ≤ w1.drew.heap.size := Nat.le_trans hsz1 hwd.size
        have HX02 := Lib.hid (HX01.out.below hwd (Nat.lt_of_lt_of_le hxx0 hsz1))
        have HX12 := Lib.hid (HX11.out.below hwd (Nat.lt_of_lt_of_le hxx1 hsz1))
        have HM2 := Lib.hid (HM1.out.now hwd)
        have HR12 := Lib.hid (HR11.out.now hwd)
        have HR2 := Lib.hid (HR1.out.now hwd)
        have HBv2 := Lib.hid (HBv1.out.now hwd)
        have HRv2 := Lib.hid (HRv1.out.now hwd)
        clear hwd HB1 HW1 HX01 HX11 HM1 HR11 HBv1 HRv1 HFr HWp hsz1 HY1 hly1
        generalize w1.drew = w2 at *
        have hcell : True := trivial
        have e0 : w2.cell? ⟨wo.heap.size, 0, none⟩ = some (.int .i64 run) := HYd.out.cell 0
        have e1 : w2.cell? ⟨wo.heap.size, 1, none⟩ = some (.int .i64 byy) := HYd.out.cell 1
        have e2 : w2.cell? ⟨wo.heap.size, 2, none⟩ = some (.int .i64 att) := HYd.out.cell 2
        have e3 : w2.cell? ⟨wo.heap.size, 3, none⟩ = some (.int .i64 fnd) := HYd.out.cell 3
        have s0 : w2.cell? ⟨w.heap.size + 1, 0, none⟩ = some (.slice A1 n1 c1) := HX12.out.cell 0
        have s1 : w2.cell? ⟨w.heap.size + 1, 1, none⟩ = some (.slice (some ad) n c) := HX12.out.cell 1
        have s2 : w2.cell? ⟨w.heap.size + 1, 2, none⟩ = some (.int .i64 bg) := HX12.out.cell 2
        go_wp2_with fail
        by_cases g0 : 1 ≤ byy ∧ byy ≤ 9999
        rotate_left
        · have HZ : Hid (r = 2) := hide (by
            have h : f k = 2 := by rw [HVk.out, if_neg (by simp), if_neg (by simp), if_pos (by unfold InS; simp only; omega)]
            rw [HYes.out (by rw [h]; decide), h])
          with_reducible refine (rin_any byy 1 9999 false _ (by simp only [Bool.and_eq_false_iff, decide_eq_false_iff_not]; omega)).mono ?_
          rintro e w' ⟨rfl, rfl⟩
          go_wp2_with fail
          go_ret
          exact ⟨ret_i HZ.out.symm, HW2.out⟩
        with_reducible refine (rin_any byy 1 9999 true _ (by simp only [Bool.and_eq_true, decide_eq_true_eq]; omega)).mono ?_
        rintro e w' ⟨rfl, rfl⟩
        go_wp2_with fail
        by_cases g1 : 0 ≤ fnd ∧ fnd ≤ 1000
        rotate_left
        · have HZ : Hid (r = 2) := hide (by
            have h : f k = 2 := by rw [HVk.out, if_neg (by simp), if_neg (by simp), if_pos (by unfold InS; simp only; omega)]
            rw [HYes.out (by rw [h]; decide), h])
          with_reducible refine (rin_any fnd 0 1000 false _ (by simp only [Bool.and_eq_false_iff, decide_eq_false_iff_not]; omega)).mono ?_
          rintro e w' ⟨rfl, rfl⟩
          go_wp2_with fail
          go_ret
          exact ⟨ret_i HZ.out.symm, HW2.out⟩
        with_reducible refine (rin_any fnd 0 1000 true _ (by simp only [Bool.and_eq_true, decide_eq_true_eq]; omega)).mono ?_
        rintro e w' ⟨rfl, rfl⟩
        go_wp2_with fail
        by_cases g2 : bg ≤ att ∧ att ≤ 20000000
        rotate_left
        · have HZ : Hid (r = 2) := hide (by
            have h : f k = 2 := by rw [HVk.out, if_neg (by simp), if_neg (by simp), if_pos (by unfold InS; simp only; omega)]
            rw [HYes.out (by rw [h]; decide), h])
          with_reducible refine (rin_any att bg 20000000 false _ (by simp only [Bool.and_eq_false_iff, decide_eq_false_iff_not]; omega)).mono ?_
          rintro e w' ⟨rfl, rfl⟩
          go_wp2_with fail
          go_ret
          exact ⟨ret_i HZ.out.symm, HW2.out⟩
        with_reducible refine (rin_any att bg 20000000 true _ (by simp only [Bool.and_eq_true, decide_eq_true_eq]; omega)).mono ?_
        rintro e w' ⟨rfl, rfl⟩
        go_wp2_with fail
        have HIn : Hid (InS bg ⟨run, byy, att, fnd⟩) := hide (by unfold InS; simp only; omega)
        have HFd2 : Hid (StrV Sw.cells 4 w2.drew w2.drew.heap.size (.slice (some ad) k c) (sw.take k)) := hide HFd.out
        have HM2d : Hid (StrV Rn.cells 7 w2.drew w2.drew.heap.size vr rs) := hide HM2.out
        have HRv2d : Hid (RowV w2.drew w2.drew.heap.size (.slice A1 n1 c1) runs) := hide HRv2.out
        clear g0 g1 g2
        rcases Nat.eq_zero_or_pos k with hk0 | hk0
        · subst hk0
          cases poss with
          | false =>
            have HZ : Hid (r = 11) := hide (by
                have h : f 0 = 11 := by rw [HVk.out, if_neg (by simp), if_neg (by simp), if_neg (not_not_intro HIn.out), if_pos (.inr rfl)]
                rw [HYes.out (by rw [h]; decide), h])
            have HS : Hid (∀ W, Below w2.heap.size w2 W → (fun W => Below w2.heap.size w2 W ∧ Blk W w.heap.size 27 #[vn, vl, vr, vb] ∧ Blk W wo.heap.size 39 #[.int .i64 run, .int .i64 byy, .int .i64 att, .int .i64 fnd] ∧ W.cell? ⟨wo.heap.size, 0, none⟩ = some (.int .i64 run) ∧ W.cell? ⟨wo.heap.size, 2, none⟩ = some (.int .i64 att) ∧ W.cell? ⟨w.heap.size + 1, 0, none⟩ = some (.slice A1 n1 c1) ∧ W.cell? ⟨w.heap.size + 1, 1, none⟩ = some (.slice (some ad) n c)) W) := fun W hB => ⟨hB, HX02.out.below hB (Nat.lt_of_lt_of_le hxx0 hsz2), HYd.out.below hB hlyd, (HYd.out.below hB hlyd).cell 0, (HYd.out.below hB hlyd).cell 2, (HX12.out.below hB (Nat.lt_of_lt_of_le hxx1 hsz2)).cell 0, (HX12.out.below hB (Nat.lt_of_lt_of_le hxx1 hsz2)).cell 1⟩
            have h0 := HS.out _ ((Below.refl w2.heap.size w2).drew)
            go_wp2_with fail
            refine wp_region_held_drew (S := fun W => Below w2.heap.size w2 W ∧ Blk W w.heap.size 27 #[vn, vl, vr, vb] ∧ Blk W wo.heap.size 39 #[.int .i64 run, .int .i64 byy, .int .i64 att, .int .i64 fnd] ∧ W.cell? ⟨wo.heap.size, 0, none⟩ = some (.int .i64 run) ∧ W.cell? ⟨wo.heap.size, 2, none⟩ = some (.int .i64 att) ∧ W.cell? ⟨w.heap.size + 1, 0, none⟩ = some (.slice A1 n1 c1) ∧ W.cell? ⟨w.heap.size + 1, 1, none⟩ = some (.slice (some ad) n c)) (by kernel_rfl) (h0) (fun hHeld => ?_)
            refine held_run 0 (some 70) (.move (.tmp 6)) ?v18_19_20 (by rfl) (by kernel_rfl) (by kernel_rfl) (by kernel_rfl) (fun _ _ _ h => h) (fun o ho w hS => ?y18_19_20) (by assumption) ?r18_19_20
            case y18_19_20 => (try dsimp only at hS); unfold execOp; simp only [ho]; go_simp; try with_reducible rfl
            try simp only [Act.put, List.setIfInBounds_toArray, List.set_cons_zero, List.set_cons_succ]
            refine held_run 1 (some 71) (.binOp .gtr 3 (.tmp 70) (.const (.int .i64 0)) 3) ?v18_19_21 (by rfl) (by kernel_rfl) (by kernel_rfl) (by kernel_rfl) (fun _ _ _ h => h) (fun o ho w hS => ?y18_19_21) (by assumption) ?r18_19_21
            case y18_19_21 => (try dsimp only at hS); unfold execOp; simp only [ho]; go_simp; try with_reducible rfl
            try simp only [Act.put, List.setIfInBounds_toArray, List.set_cons_zero, List.set_cons_succ]
            refine held_run 2 (some 72) (.move (.tmp 71)) ?v18_19_22 (by rfl) (by kernel_rfl) (by kernel_rfl) (by kernel_rfl) (fun _ _ _ h => h) (fun o ho w hS => ?y18_19_22) (by assumption) ?r18_19_22
            case y18_19_22 => (try dsimp only at hS); unfold execOp; simp only [ho]; go_simp; try with_reducible rfl
            try simp only [Act.put, List.setIfInBounds_toArray, List.set_cons_zero, List.set_cons_succ]
            refine held_skip 3 (some 73) (by rfl) (by kernel_rfl) (by kernel_rfl) (by kernel_rfl) (fun _ _ _ h => h) (by assumption) ?_
            try simp only [Act.put, List.setIfInBounds_toArray, List.set_cons_zero, List.set_cons_succ]
            refine held_skip 4 (some 74) (by rfl) (by kernel_rfl) (by kernel_rfl) (by kernel_rfl) (fun _ _ _ h => h) (by assumption) ?_
            try simp only [Act.put, List.setIfInBounds_toArray, List.set_cons_zero, List.set_cons_succ]
            refine held_skip 5 (some 75) (by rfl) (by kernel_rfl) (by kernel_rfl) (by kernel_rfl) (fun _ _ _ h => h) (by assumption) ?_
            try simp only [Act.put, List.setIfInBounds_toArray, List.set_cons_zero, List.set_cons_succ]
            refine held_skip 6 (some 76) (by rfl) (by kernel_rfl) (by kernel_rfl) (by kernel_rfl) (fun _ _ _ h => h) (by assumption) ?_
            try simp only [Act.put, List.setIfInBounds_toArray, List.set_cons_zero, List.set_cons_succ]
            refine held_skip 7 (some 77) (by rfl) (by kernel_rfl) (by kernel_rfl) (by kernel_rfl) (fun _ _ _ h => h) (by assumption) ?_
            try simp only [Act.put, List.setIfInBounds_toArray, List.set_cons_zero, List.set_cons_succ]
            refine held_skip 8 (some 78) (by rfl) (by kernel_rfl) (by kernel_rfl) (by kernel_rfl) (fun _ _ _ h => h) (by assumption) ?_
            try simp only [Act.put, List.setIfInBounds_toArray, List.set_cons_zero, List.set_cons_succ]
            refine held_skip 9 (some 79) (by rfl) (by kernel_rfl) (by kernel_rfl) (by kernel_rfl) (fun _ _ _ h => h) (by assumption) ?_
            try simp only [Act.put, List.setIfInBounds_toArray, List.set_cons_zero, List.set_cons_succ]
            refine held_skip 10 (some 80) (by rfl) (by kernel_rfl) (by kernel_rfl) (by kernel_rfl) (fun _ _ _ h => h) (by assumption) ?_
            try simp only [Act.put, List.setIfInBounds_toArray, List.set_cons_zero, List.set_cons_succ]
            refine held_skip 11 (some 81) (by rfl) (by kernel_rfl) (by kernel_rfl) (by kernel_rfl) (fun _ _ _ h => h) (by assumption) ?_
            try simp only [Act.put, List.setIfInBounds_toArray, List.set_cons_zero, List.set_cons_succ]
            refine held_skip 12 (some 82) (by rfl) (by kernel_rfl) (by kernel_rfl) (by kernel_rfl) (fun _ _ _ h => h) (by assumption) ?_
            try simp only [Act.put, List.setIfInBounds_toArray, List.set_cons_zero, List.set_cons_succ]
            refine held_run 13 (some 83) (.pick (.tmp 72) (.tmp 82) (.const (Value.bool false))) ?v18_19_33 (by rfl) (by kernel_rfl) (by kernel_rfl) (by kernel_rfl) (fun _ _ _ h => h) (fun o ho w hS => ?y18_19_33) (by assumption) ?r18_19_33
            case y18_19_33 => (try dsimp only at hS); unfold execOp; simp only [ho]; go_simp; try with_reducible rfl
            try simp only [Act.put, List.setIfInBounds_toArray, List.set_cons_zero, List.set_cons_succ]
            refine held_run 14 (some 84) (.move (.tmp 83)) ?v18_19_34 (by rfl) (by kernel_rfl) (by kernel_rfl) (by kernel_rfl) (fun _ _ _ h => h) (fun o ho w hS => ?y18_19_34) (by assumption) ?r18_19_34
            case y18_19_34 => (try dsimp only at hS); unfold execOp; simp only [ho]; go_simp; try with_reducible rfl
            try simp only [Act.put, List.setIfInBounds_toArray, List.set_cons_zero, List.set_cons_succ]
            refine held_load 15 (some 85) 27 (.tmp 2) (by rfl) (by kernel_rfl) (by kernel_rfl) (by kernel_rfl) (w.heap.size) 27 #[vn, vl, vr, vb] (fun _ _ _ h => h) (by rfl) (fun _ h => h.2.1) _ Try.underlying27 rfl (by kernel_rfl) (by assumption) ?_
            try simp only [Act.put, List.setIfInBounds_toArray, List.set_cons_zero, List.set_cons_succ]
            refine held_run 16 (some 86) (.fieldAddr 30 (.tmp 3) 0) ?v18_19_36 (by rfl) (by kernel_rfl) (by kernel_rfl) (by kernel_rfl) (fun _ _ _ h => h) (fun o ho w hS => ?y18_19_36) (by assumption) ?r18_19_36
            case y18_19_36 => (try dsimp only at hS); unfold execOp; simp only [ho]; go_simp; try with_reducible rfl
            try simp only [Act.put, List.setIfInBounds_toArray, List.set_cons_zero, List.set_cons_succ]
            refine held_run 17 (some 87) (.load 25 (.tmp 86)) ?v18_19_37 (by rfl) (by kernel_rfl) (by kernel_rfl) (by kernel_rfl) (fun _ _ _ h => h) (fun o ho w hS => ?y18_19_37) (by assumption) ?r18_19_37
            case y18_19_37 => (try dsimp only at hS); unfold execOp; simp only [ho]; go_simp; try with_reducible rfl
            try simp only [Act.put, List.setIfInBounds_toArray, List.set_cons_zero, List.set_cons_succ]
            refine held_run 18 (some 88) (.fieldAddr 30 (.tmp 3) 1) ?v18_19_38 (by rfl) (by kernel_rfl) (by kernel_rfl) (by kernel_rfl) (fun _ _ _ h => h) (fun o ho w hS => ?y18_19_38) (by assumption) ?r18_19_38
            case y18_19_38 => (try dsimp only at hS); unfold execOp; simp only [ho]; go_simp; try with_reducible rfl
            try simp only [Act.put, List.setIfInBounds_toArray, List.set_cons_zero, List.set_cons_succ]
            refine held_run 19 (some 89) (.load 28 (.tmp 88)) ?v18_19_39 (by rfl) (by kernel_rfl) (by kernel_rfl) (by kernel_rfl) (fun _ _ _ h => h) (fun o ho w hS => ?y18_19_39) (by assumption) ?r18_19_39
            case y18_19_39 => (try dsimp only at hS); unfold execOp; simp only [ho]; go_simp; try with_reducible rfl
            try simp only [Act.put, List.setIfInBounds_toArray, List.set_cons_zero, List.set_cons_succ]
            refine held_run 20 (some 90) (.move (.tmp 6)) ?v18_19_40 (by rfl) (by kernel_rfl) (by kernel_rfl) (by kernel_rfl) (fun _ _ _ h => h) (fun o ho w hS => ?y18_19_40) (by assumption) ?r18_19_40
            case y18_19_40 => (try dsimp only at hS); unfold execOp; simp only [ho]; go_simp; try with_reducible rfl
            try simp only [Act.put, List.setIfInBounds_toArray, List.set_cons_zero, List.set_cons_succ]
            refine held_run 21 (some 91) (.slice 28 (.tmp 89) none (some (.tmp 90)) none) ?v18_19_41 (by rfl) (by kernel_rfl) (by kernel_rfl) (by kernel_rfl) (fun _ _ _ h => h) (fun o ho w hS => ?y18_19_41) (by assumption) ?r18_19_41
            case y18_19_41 => (try dsimp only at hS); unfold execOp; simp only [ho]; go_simp; try with_reducible rfl
            try simp only [Act.put, List.setIfInBounds_toArray, List.set_cons_zero, List.set_cons_succ]
            refine held_run 22 (some 92) (.fieldAddr 39 (.tmp 7) 0) ?v18_19_42 (by rfl) (by kernel_rfl) (by kernel_rfl) (by kernel_rfl) (fun _ _ _ h => h) (fun o ho w hS => ?y18_19_42) (by assumption) ?r18_19_42
            case y18_19_42 => (try dsimp only at hS); unfold execOp; simp only [ho]; go_simp; try with_reducible rfl
            try simp only [Act.put, List.setIfInBounds_toArray, List.set_cons_zero, List.set_cons_succ]
            refine held_run 23 (some 93) (.load 3 (.tmp 92)) ?v18_19_43 (by rfl) (by kernel_rfl) (by kernel_rfl) (by kernel_rfl) (fun _ _ _ h => h) (fun o ho w hS => ?y18_19_43) (by assumption) ?r18_19_43
            case y18_19_43 => (try dsimp only at hS); unfold execOp; simp only [ho]; go_simp; try with_reducible rfl
            try simp only [Act.put, List.setIfInBounds_toArray, List.set_cons_zero, List.set_cons_succ]
            refine held_call 24 (some 94) 47 [(.tmp 85), (.tmp 87), (.tmp 91), (.tmp 93)] #[27, 25, 28, 3] #[.agg #[vn, vl, vr, vb], .slice A1 n1 c1, .slice (some ad) 0 c, .int .i64 run] (by rfl) (by rfl) (by kernel_rfl) Try.func47 (by rfl) (by rfl) ?_
            refine (HC.out run 0 (.slice (some ad) 0 c) _ HM2d.out HRv2d.out HFd2.out).mono ?_
            rw [HP.out]
            rintro e w3 ⟨rfl, hb3⟩
            have hbb3 : Below w2.heap.size w2 w3 := (Below.refl w2.heap.size w2).drew.trans hb3
            have HB3 := Lib.hid (HB2.out.trans (hbb3.mono hsz2))
            have HW3 := Lib.hid (HW2.out.trans (hbb3.mono HW2.out.size))
            have hsz3 : wb.heap.size ≤ w3.heap.size := Nat.le_trans hsz2 hbb3.size
            have HX03 := Lib.hid (HX02.out.below hbb3 (Nat.lt_of_lt_of_le hxx0 hsz2))
            have HX13 := Lib.hid (HX12.out.below hbb3 (Nat.lt_of_lt_of_le hxx1 hsz2))
            have HM3 := Lib.hid (HM2.out.now hbb3)
            have HR13 := Lib.hid (HR12.out.now hbb3)
            have HR3 := Lib.hid (HR2.out.now hbb3)
            have HBv3 := Lib.hid (HBv2.out.now hbb3)
            have HRv3 := Lib.hid (HRv2.out.now hbb3)
            clear h0
            have h0 := HS.out _ hbb3
            refine ⟨_, rfl, h0, ?_⟩
            clear hb3 hbb3
            try simp only [Act.put, List.setIfInBounds_toArray, List.set_cons_zero, List.set_cons_succ]
            refine held_run 25 (some 95) (.unOp .not 4 (.tmp 94)) ?v18_19_45 (by rfl) (by kernel_rfl) (by kernel_rfl) (by kernel_rfl) (fun _ _ _ h => h) (fun o ho w hS => ?y18_19_45) (by assumption) ?r18_19_45
            case y18_19_45 => (try dsimp only at hS); unfold execOp; simp only [ho]; go_simp; try with_reducible rfl
            try simp only [Act.put, List.setIfInBounds_toArray, List.set_cons_zero, List.set_cons_succ]
            refine held_run 26 (some 96) (.pick (.tmp 84) (.const (Value.bool true)) (.tmp 95)) ?v18_19_46 (by rfl) (by kernel_rfl) (by kernel_rfl) (by kernel_rfl) (fun _ _ _ h => h) (fun o ho w hS => ?y18_19_46) (by assumption) ?r18_19_46
            case y18_19_46 => (try dsimp only at hS); unfold execOp; simp only [ho]; go_simp; try with_reducible rfl
            try simp only [Act.put, List.setIfInBounds_toArray, List.set_cons_zero, List.set_cons_succ]
            refine held_run 27 (some 69) (.assign (.tmp 96)) ?v18_19_47 (by rfl) (by kernel_rfl) (by kernel_rfl) (by kernel_rfl) (fun _ _ _ h => h) (fun o ho w hS => ?y18_19_47) (by assumption) ?r18_19_47
            case y18_19_47 => (try dsimp only at hS); unfold execOp; simp only [ho]; go_simp; try with_reducible rfl
            try simp only [Act.put, List.setIfInBounds_toArray, List.set_cons_zero, List.set_cons_succ]
            refine wpAnyH_done (by kernel_rfl) ?_ _
            go_wp2_with fail
            go_ret
            exact ⟨ret_i HZ.out.symm, HW3.out⟩
          | true =>
            have HGo : Hid (r = errF f 1 (n - 1)) := hide (HNo.out (by rw [HVk.out, if_neg (by simp), if_neg (by simp), if_neg (not_not_intro HIn.out), if_neg (fun h => h.elim (fun h => absurd h.1 (by omega)) (fun h => by cases h))]))
            have HS : Hid (∀ W, Below w2.heap.size w2 W → (fun W => Below w2.heap.size w2 W ∧ Blk W w.heap.size 27 #[vn, vl, vr, vb] ∧ Blk W wo.heap.size 39 #[.int .i64 run, .int .i64 byy, .int .i64 att, .int .i64 fnd] ∧ W.cell? ⟨wo.heap.size, 0, none⟩ = some (.int .i64 run) ∧ W.cell? ⟨wo.heap.size, 2, none⟩ = some (.int .i64 att) ∧ W.cell? ⟨w.heap.size + 1, 0, none⟩ = some (.slice A1 n1 c1) ∧ W.cell? ⟨w.heap.size + 1, 1, none⟩ = some (.slice (some ad) n c)) W) := fun W hB => ⟨hB, HX02.out.below hB (Nat.lt_of_lt_of_le hxx0 hsz2), HYd.out.below hB hlyd, (HYd.out.below hB hlyd).cell 0, (HYd.out.below hB hlyd).cell 2, (HX12.out.below hB (Nat.lt_of_lt_of_le hxx1 hsz2)).cell 0, (HX12.out.below hB (Nat.lt_of_lt_of_le hxx1 hsz2)).cell 1⟩
            have h0 := HS.out _ ((Below.refl w2.heap.size w2).drew)
            go_wp2_with fail
            refine wp_region_held_drew (S := fun W => Below w2.heap.size w2 W ∧ Blk W w.heap.size 27 #[vn, vl, vr, vb] ∧ Blk W wo.heap.size 39 #[.int .i64 run, .int .i64 byy, .int .i64 att, .int .i64 fnd] ∧ W.cell? ⟨wo.heap.size, 0, none⟩ = some (.int .i64 run) ∧ W.cell? ⟨wo.heap.size, 2, none⟩ = some (.int .i64 att) ∧ W.cell? ⟨w.heap.size + 1, 0, none⟩ = some (.slice A1 n1 c1) ∧ W.cell? ⟨w.heap.size + 1, 1, none⟩ = some (.slice (some ad) n c)) (by kernel_rfl) (h0) (fun hHeld => ?_)
            refine held_run 0 (some 70) (.move (.tmp 6)) ?v18_48_49 (by rfl) (by kernel_rfl) (by kernel_rfl) (by kernel_rfl) (fun _ _ _ h => h) (fun o ho w hS => ?y18_48_49) (by assumption) ?r18_48_49
            case y18_48_49 => (try dsimp only at hS); unfold execOp; simp only [ho]; go_simp; try with_reducible rfl
            try simp only [Act.put, List.setIfInBounds_toArray, List.set_cons_zero, List.set_cons_succ]
            refine held_run 1 (some 71) (.binOp .gtr 3 (.tmp 70) (.const (.int .i64 0)) 3) ?v18_48_50 (by rfl) (by kernel_rfl) (by kernel_rfl) (by kernel_rfl) (fun _ _ _ h => h) (fun o ho w hS => ?y18_48_50) (by assumption) ?r18_48_50
            case y18_48_50 => (try dsimp only at hS); unfold execOp; simp only [ho]; go_simp; try with_reducible rfl
            try simp only [Act.put, List.setIfInBounds_toArray, List.set_cons_zero, List.set_cons_succ]
            refine held_run 2 (some 72) (.move (.tmp 71)) ?v18_48_51 (by rfl) (by kernel_rfl) (by kernel_rfl) (by kernel_rfl) (fun _ _ _ h => h) (fun o ho w hS => ?y18_48_51) (by assumption) ?r18_48_51
            case y18_48_51 => (try dsimp only at hS); unfold execOp; simp only [ho]; go_simp; try with_reducible rfl
            try simp only [Act.put, List.setIfInBounds_toArray, List.set_cons_zero, List.set_cons_succ]
            refine held_skip 3 (some 73) (by rfl) (by kernel_rfl) (by kernel_rfl) (by kernel_rfl) (fun _ _ _ h => h) (by assumption) ?_
            try simp only [Act.put, List.setIfInBounds_toArray, List.set_cons_zero, List.set_cons_succ]
            refine held_skip 4 (some 74) (by rfl) (by kernel_rfl) (by kernel_rfl) (by kernel_rfl) (fun _ _ _ h => h) (by assumption) ?_
            try simp only [Act.put, List.setIfInBounds_toArray, List.set_cons_zero, List.set_cons_succ]
            refine held_skip 5 (some 75) (by rfl) (by kernel_rfl) (by kernel_rfl) (by kernel_rfl) (fun _ _ _ h => h) (by assumption) ?_
            try simp only [Act.put, List.setIfInBounds_toArray, List.set_cons_zero, List.set_cons_succ]
            refine held_skip 6 (some 76) (by rfl) (by kernel_rfl) (by kernel_rfl) (by kernel_rfl) (fun _ _ _ h => h) (by assumption) ?_
            try simp only [Act.put, List.setIfInBounds_toArray, List.set_cons_zero, List.set_cons_succ]
            refine held_skip 7 (some 77) (by rfl) (by kernel_rfl) (by kernel_rfl) (by kernel_rfl) (fun _ _ _ h => h) (by assumption) ?_
            try simp only [Act.put, List.setIfInBounds_toArray, List.set_cons_zero, List.set_cons_succ]
            refine held_skip 8 (some 78) (by rfl) (by kernel_rfl) (by kernel_rfl) (by kernel_rfl) (fun _ _ _ h => h) (by assumption) ?_
            try simp only [Act.put, List.setIfInBounds_toArray, List.set_cons_zero, List.set_cons_succ]
            refine held_skip 9 (some 79) (by rfl) (by kernel_rfl) (by kernel_rfl) (by kernel_rfl) (fun _ _ _ h => h) (by assumption) ?_
            try simp only [Act.put, List.setIfInBounds_toArray, List.set_cons_zero, List.set_cons_succ]
            refine held_skip 10 (some 80) (by rfl) (by kernel_rfl) (by kernel_rfl) (by kernel_rfl) (fun _ _ _ h => h) (by assumption) ?_
            try simp only [Act.put, List.setIfInBounds_toArray, List.set_cons_zero, List.set_cons_succ]
            refine held_skip 11 (some 81) (by rfl) (by kernel_rfl) (by kernel_rfl) (by kernel_rfl) (fun _ _ _ h => h) (by assumption) ?_
            try simp only [Act.put, List.setIfInBounds_toArray, List.set_cons_zero, List.set_cons_succ]
            refine held_skip 12 (some 82) (by rfl) (by kernel_rfl) (by kernel_rfl) (by kernel_rfl) (fun _ _ _ h => h) (by assumption) ?_
            try simp only [Act.put, List.setIfInBounds_toArray, List.set_cons_zero, List.set_cons_succ]
            refine held_run 13 (some 83) (.pick (.tmp 72) (.tmp 82) (.const (Value.bool false))) ?v18_48_62 (by rfl) (by kernel_rfl) (by kernel_rfl) (by kernel_rfl) (fun _ _ _ h => h) (fun o ho w hS => ?y18_48_62) (by assumption) ?r18_48_62
            case y18_48_62 => (try dsimp only at hS); unfold execOp; simp only [ho]; go_simp; try with_reducible rfl
            try simp only [Act.put, List.setIfInBounds_toArray, List.set_cons_zero, List.set_cons_succ]
            refine held_run 14 (some 84) (.move (.tmp 83)) ?v18_48_63 (by rfl) (by kernel_rfl) (by kernel_rfl) (by kernel_rfl) (fun _ _ _ h => h) (fun o ho w hS => ?y18_48_63) (by assumption) ?r18_48_63
            case y18_48_63 => (try dsimp only at hS); unfold execOp; simp only [ho]; go_simp; try with_reducible rfl
            try simp only [Act.put, List.setIfInBounds_toArray, List.set_cons_zero, List.set_cons_succ]
            refine held_load 15 (some 85) 27 (.tmp 2) (by rfl) (by kernel_rfl) (by kernel_rfl) (by kernel_rfl) (w.heap.size) 27 #[vn, vl, vr, vb] (fun _ _ _ h => h) (by rfl) (fun _ h => h.2.1) _ Try.underlying27 rfl (by kernel_rfl) (by assumption) ?_
            try simp only [Act.put, List.setIfInBounds_toArray, List.set_cons_zero, List.set_cons_succ]
            refine held_run 16 (some 86) (.fieldAddr 30 (.tmp 3) 0) ?v18_48_65 (by rfl) (by kernel_rfl) (by kernel_rfl) (by kernel_rfl) (fun _ _ _ h => h) (fun o ho w hS => ?y18_48_65) (by assumption) ?r18_48_65
            case y18_48_65 => (try dsimp only at hS); unfold execOp; simp only [ho]; go_simp; try with_reducible rfl
            try simp only [Act.put, List.setIfInBounds_toArray, List.set_cons_zero, List.set_cons_succ]
            refine held_run 17 (some 87) (.load 25 (.tmp 86)) ?v18_48_66 (by rfl) (by kernel_rfl) (by kernel_rfl) (by kernel_rfl) (fun _ _ _ h => h) (fun o ho w hS => ?y18_48_66) (by assumption) ?r18_48_66
            case y18_48_66 => (try dsimp only at hS); unfold execOp; simp only [ho]; go_simp; try with_reducible rfl
            try simp only [Act.put, List.setIfInBounds_toArray, List.set_cons_zero, List.set_cons_succ]
            refine held_run 18 (some 88) (.fieldAddr 30 (.tmp 3) 1) ?v18_48_67 (by rfl) (by kernel_rfl) (by kernel_rfl) (by kernel_rfl) (fun _ _ _ h => h) (fun o ho w hS => ?y18_48_67) (by assumption) ?r18_48_67
            case y18_48_67 => (try dsimp only at hS); unfold execOp; simp only [ho]; go_simp; try with_reducible rfl
            try simp only [Act.put, List.setIfInBounds_toArray, List.set_cons_zero, List.set_cons_succ]
            refine held_run 19 (some 89) (.load 28 (.tmp 88)) ?v18_48_68 (by rfl) (by kernel_rfl) (by kernel_rfl) (by kernel_rfl) (fun _ _ _ h => h) (fun o ho w hS => ?y18_48_68) (by assumption) ?r18_48_68
            case y18_48_68 => (try dsimp only at hS); unfold execOp; simp only [ho]; go_simp; try with_reducible rfl
            try simp only [Act.put, List.setIfInBounds_toArray, List.set_cons_zero, List.set_cons_succ]
            refine held_run 20 (some 90) (.move (.tmp 6)) ?v18_48_69 (by rfl) (by kernel_rfl) (by kernel_rfl) (by kernel_rfl) (fun _ _ _ h => h) (fun o ho w hS => ?y18_48_69) (by assumption) ?r18_48_69
            case y18_48_69 => (try dsimp only at hS); unfold execOp; simp only [ho]; go_simp; try with_reducible rfl
            try simp only [Act.put, List.setIfInBounds_toArray, List.set_cons_zero, List.set_cons_succ]
            refine held_run 21 (some 91) (.slice 28 (.tmp 89) none (some (.tmp 90)) none) ?v18_48_70 (by rfl) (by kernel_rfl) (by kernel_rfl) (by kernel_rfl) (fun _ _ _ h => h) (fun o ho w hS => ?y18_48_70) (by assumption) ?r18_48_70
            case y18_48_70 => (try dsimp only at hS); unfold execOp; simp only [ho]; go_simp; try with_reducible rfl
            try simp only [Act.put, List.setIfInBounds_toArray, List.set_cons_zero, List.set_cons_succ]
            refine held_run 22 (some 92) (.fieldAddr 39 (.tmp 7) 0) ?v18_48_71 (by rfl) (by kernel_rfl) (by kernel_rfl) (by kernel_rfl) (fun _ _ _ h => h) (fun o ho w hS => ?y18_48_71) (by assumption) ?r18_48_71
            case y18_48_71 => (try dsimp only at hS); unfold execOp; simp only [ho]; go_simp; try with_reducible rfl
            try simp only [Act.put, List.setIfInBounds_toArray, List.set_cons_zero, List.set_cons_succ]
            refine held_run 23 (some 93) (.load 3 (.tmp 92)) ?v18_48_72 (by rfl) (by kernel_rfl) (by kernel_rfl) (by kernel_rfl) (fun _ _ _ h => h) (fun o ho w hS => ?y18_48_72) (by assumption) ?r18_48_72
            case y18_48_72 => (try dsimp only at hS); unfold execOp; simp only [ho]; go_simp; try with_reducible rfl
            try simp only [Act.put, List.setIfInBounds_toArray, List.set_cons_zero, List.set_cons_succ]
            refine held_call 24 (some 94) 47 [(.tmp 85), (.tmp 87), (.tmp 91), (.tmp 93)] #[27, 25, 28, 3] #[.agg #[vn, vl, vr, vb], .slice A1 n1 c1, .slice (some ad) 0 c, .int .i64 run] (by rfl) (by rfl) (by kernel_rfl) Try.func47 (by rfl) (by rfl) ?_
            refine (HC.out run 0 (.slice (some ad) 0 c) _ HM2d.out HRv2d.out HFd2.out).mono ?_
            rw [HP.out]
            rintro e w3 ⟨rfl, hb3⟩
            have hbb3 : Below w2.heap.size w2 w3 := (Below.refl w2.heap.size w2).drew.trans hb3
            have HB3 := Lib.hid (HB2.out.trans (hbb3.mono hsz2))
            have HW3 := Lib.hid (HW2.out.trans (hbb3.mono HW2.out.size))
            have hsz3 : wb.heap.size ≤ w3.heap.size := Nat.le_trans hsz2 hbb3.size
            have HX03 := Lib.hid (HX02.out.below hbb3 (Nat.lt_of_lt_of_le hxx0 hsz2))
            have HX13 := Lib.hid (HX12.out.below hbb3 (Nat.lt_of_lt_of_le hxx1 hsz2))
            have HM3 := Lib.hid (HM2.out.now hbb3)
            have HR13 := Lib.hid (HR12.out.now hbb3)
            have HR3 := Lib.hid (HR2.out.now hbb3)
            have HBv3 := Lib.hid (HBv2.out.now hbb3)
            have HRv3 := Lib.hid (HRv2.out.now hbb3)
            clear h0
            have h0 := HS.out _ hbb3
            refine ⟨_, rfl, h0, ?_⟩
            clear hb3 hbb3
            try simp only [Act.put, List.setIfInBounds_toArray, List.set_cons_zero, List.set_cons_succ]
            refine held_run 25 (some 95) (.unOp .not 4 (.tmp 94)) ?v18_48_74 (by rfl) (by kernel_rfl) (by kernel_rfl) (by kernel_rfl) (fun _ _ _ h => h) (fun o ho w hS => ?y18_48_74) (by assumption) ?r18_48_74
            case y18_48_74 => (try dsimp only at hS); unfold execOp; simp only [ho]; go_simp; try with_reducible rfl
            try simp only [Act.put, List.setIfInBounds_toArray, List.set_cons_zero, List.set_cons_succ]
            refine held_run 26 (some 96) (.pick (.tmp 84) (.const (Value.bool true)) (.tmp 95)) ?v18_48_75 (by rfl) (by kernel_rfl) (by kernel_rfl) (by kernel_rfl) (fun _ _ _ h => h) (fun o ho w hS => ?y18_48_75) (by assumption) ?r18_48_75
            case y18_48_75 => (try dsimp only at hS); unfold execOp; simp only [ho]; go_simp; try with_reducible rfl
            try simp only [Act.put, List.setIfInBounds_toArray, List.set_cons_zero, List.set_cons_succ]
            refine held_run 27 (some 69) (.assign (.tmp 96)) ?v18_48_76 (by rfl) (by kernel_rfl) (by kernel_rfl) (by kernel_rfl) (fun _ _ _ h => h) (fun o ho w hS => ?y18_48_76) (by assumption) ?r18_48_76
            case y18_48_76 => (try dsimp only at hS); unfold execOp; simp only [ho]; go_simp; try with_reducible rfl
            try simp only [Act.put, List.setIfInBounds_toArray, List.set_cons_zero, List.set_cons_succ]
            refine wpAnyH_done (by kernel_rfl) ?_ _
            go_wp2_with fail
            go_roundw
            case rel => exact ⟨1, by omega, by go_num, HGo.out, HB3.out⟩
            case measure => simp [intOf]; omega
        · obtain ⟨k', hk'⟩ : ∃ k', k = k' + 1 := ⟨k - 1, by omega⟩
          have hcp := HPrev.out k' hk'
          have hkm : k - 1 = k' := by omega
          rw [hkm] at HVk
          clear hkm
          generalize sw.getD k' sw0 = q' at *
          obtain ⟨run', byy', p, fnd'⟩ := q'
          simp only at HVk
          have cpo : wo.cell? ((ad.add (k' * 4)).add 2) = some (.int .i64 p) := hcp 2 _ rfl
          have cp : w2.cell? ⟨(ad.add (k' * 4)).block, (ad.add (k' * 4)).off + 2, none⟩ = some (.int .i64 p) := (HWpd.out.cell (p := (ad.add (k' * 4)).add 2) (by rw [block_of_add, block_of_add]; exact hab)).trans cpo
          have HCp := Lib.hid cp
          clear hcp cpo cp
          have hj : (k : Int) - 1 = (k' : Int) := by omega
          have hkn : k' < n := by omega
          have dk : decide (0 < k) = true := decide_eq_true hk0
          have hwr : IntKind.i64.wrap (k' : Int) = (k' : Int) := IntWalk.i64_in _ (by omega)
          clear hk'
          by_cases h3 : att < p
          · have HZ : Hid (r = 11) := hide (by
              have h : f k = 11 := by rw [HVk.out, if_neg (by simp), if_neg (by simp), if_neg (not_not_intro HIn.out), if_pos (.inl ⟨hk0, h3⟩)]
              rw [HYes.out (by rw [h]; decide), h])
            have HS : Hid (∀ W, Below w2.heap.size w2 W → (fun W => Below w2.heap.size w2 W ∧ Blk W w.heap.size 27 #[vn, vl, vr, vb] ∧ Blk W wo.heap.size 39 #[.int .i64 run, .int .i64 byy, .int .i64 att, .int .i64 fnd] ∧ W.cell? ⟨wo.heap.size, 0, none⟩ = some (.int .i64 run) ∧ W.cell? ⟨wo.heap.size, 2, none⟩ = some (.int .i64 att) ∧ W.cell? ⟨w.heap.size + 1, 0, none⟩ = some (.slice A1 n1 c1) ∧ W.cell? ⟨w.heap.size + 1, 1, none⟩ = some (.slice (some ad) n c) ∧ W.cell? ⟨(ad.add (k' * 4)).block, (ad.add (k' * 4)).off + 2, none⟩ = some (.int .i64 p)) W) := fun W hB => ⟨hB, HX02.out.below hB (Nat.lt_of_lt_of_le hxx0 hsz2), HYd.out.below hB hlyd, (HYd.out.below hB hlyd).cell 0, (HYd.out.below hB hlyd).cell 2, (HX12.out.below hB (Nat.lt_of_lt_of_le hxx1 hsz2)).cell 0, (HX12.out.below hB (Nat.lt_of_lt_of_le hxx1 hsz2)).cell 1, (hB.cell (p := ⟨(ad.add (k' * 4)).block, (ad.add (k' * 4)).off + 2, none⟩) (by show (ad.add (k' * 4)).block < _; rw [block_of_add]; exact Nat.lt_of_lt_of_le hab HWpd.out.size)).trans HCp.out⟩
            have h0 := HS.out _ ((Below.refl w2.heap.size w2).drew)
            go_wp2_with fail
            refine wp_region_held_drew (S := fun W => Below w2.heap.size w2 W ∧ Blk W w.heap.size 27 #[vn, vl, vr, vb] ∧ Blk W wo.heap.size 39 #[.int .i64 run, .int .i64 byy, .int .i64 att, .int .i64 fnd] ∧ W.cell? ⟨wo.heap.size, 0, none⟩ = some (.int .i64 run) ∧ W.cell? ⟨wo.heap.size, 2, none⟩ = some (.int .i64 att) ∧ W.cell? ⟨w.heap.size + 1, 0, none⟩ = some (.slice A1 n1 c1) ∧ W.cell? ⟨w.heap.size + 1, 1, none⟩ = some (.slice (some ad) n c) ∧ W.cell? ⟨(ad.add (k' * 4)).block, (ad.add (k' * 4)).off + 2, none⟩ = some (.int .i64 p)) (by kernel_rfl) (h0) (fun hHeld => ?_)
            refine held_run 0 (some 70) (.move (.tmp 6)) ?v18_77_78 (by rfl) (by kernel_rfl) (by kernel_rfl) (by kernel_rfl) (fun _ _ _ h => h) (fun o ho w hS => ?y18_77_78) (by assumption) ?r18_77_78
            case y18_77_78 => (try dsimp only at hS); unfold execOp; simp only [ho]; go_simp; try with_reducible rfl
            try simp only [Act.put, List.setIfInBounds_toArray, List.set_cons_zero, List.set_cons_succ]
            refine held_run 1 (some 71) (.binOp .gtr 3 (.tmp 70) (.const (.int .i64 0)) 3) ?v18_77_79 (by rfl) (by kernel_rfl) (by kernel_rfl) (by kernel_rfl) (fun _ _ _ h => h) (fun o ho w hS => ?y18_77_79) (by assumption) ?r18_77_79
            case y18_77_79 => (try dsimp only at hS); unfold execOp; simp only [ho]; go_simp; try with_reducible rfl
            try simp only [Act.put, List.setIfInBounds_toArray, List.set_cons_zero, List.set_cons_succ]
            refine held_run 2 (some 72) (.move (.tmp 71)) ?v18_77_80 (by rfl) (by kernel_rfl) (by kernel_rfl) (by kernel_rfl) (fun _ _ _ h => h) (fun o ho w hS => ?y18_77_80) (by assumption) ?r18_77_80
            case y18_77_80 => (try dsimp only at hS); unfold execOp; simp only [ho]; go_simp; try with_reducible rfl
            try simp only [Act.put, List.setIfInBounds_toArray, List.set_cons_zero, List.set_cons_succ]
            refine held_run 3 (some 73) (.fieldAddr 39 (.tmp 7) 2) ?v18_77_81 (by rfl) (by kernel_rfl) (by kernel_rfl) (by kernel_rfl) (fun _ _ _ h => h) (fun o ho w hS => ?y18_77_81) (by assumption) ?r18_77_81
            case y18_77_81 => (try dsimp only at hS); unfold execOp; simp only [ho]; go_simp; try with_reducible rfl
            try simp only [Act.put, List.setIfInBounds_toArray, List.set_cons_zero, List.set_cons_succ]
            refine held_run 4 (some 74) (.load 3 (.tmp 73)) ?v18_77_82 (by rfl) (by kernel_rfl) (by kernel_rfl) (by kernel_rfl) (fun _ _ _ h => h) (fun o ho w hS => ?y18_77_82) (by assumption) ?r18_77_82
            case y18_77_82 => (try dsimp only at hS); unfold execOp; simp only [ho]; go_simp; try with_reducible rfl
            try simp only [Act.put, List.setIfInBounds_toArray, List.set_cons_zero, List.set_cons_succ]
            refine held_run 5 (some 75) (.fieldAddr 30 (.tmp 3) 1) ?v18_77_83 (by rfl) (by kernel_rfl) (by kernel_rfl) (by kernel_rfl) (fun _ _ _ h => h) (fun o ho w hS => ?y18_77_83) (by assumption) ?r18_77_83
            case y18_77_83 => (try dsimp only at hS); unfold execOp; simp only [ho]; go_simp; try with_reducible rfl
            try simp only [Act.put, List.setIfInBounds_toArray, List.set_cons_zero, List.set_cons_succ]
            refine held_run 6 (some 76) (.load 28 (.tmp 75)) ?v18_77_84 (by rfl) (by kernel_rfl) (by kernel_rfl) (by kernel_rfl) (fun _ _ _ h => h) (fun o ho w hS => ?y18_77_84) (by assumption) ?r18_77_84
            case y18_77_84 => (try dsimp only at hS); unfold execOp; simp only [ho]; go_simp; try with_reducible rfl
            try simp only [Act.put, List.setIfInBounds_toArray, List.set_cons_zero, List.set_cons_succ]
            refine held_run 7 (some 77) (.move (.tmp 6)) ?v18_77_85 (by rfl) (by kernel_rfl) (by kernel_rfl) (by kernel_rfl) (fun _ _ _ h => h) (fun o ho w hS => ?y18_77_85) (by assumption) ?r18_77_85
            case y18_77_85 => (try dsimp only at hS); unfold execOp; simp only [ho]; go_simp; try with_reducible rfl
            try simp only [Act.put, List.setIfInBounds_toArray, List.set_cons_zero, List.set_cons_succ]
            refine held_run 8 (some 78) (.binOp .sub 3 (.tmp 77) (.const (.int .i64 1)) 3) ?v18_77_86 (by rfl) (by kernel_rfl) (by kernel_rfl) (by kernel_rfl) (fun _ _ _ h => h) (fun o ho w hS => ?y18_77_86) (by assumption) ?r18_77_86
            case y18_77_86 => (try dsimp only at hS); unfold execOp; simp only [ho]; go_simp; try with_reducible rfl
            try simp only [Act.put, List.setIfInBounds_toArray, List.set_cons_zero, List.set_cons_succ]
            refine held_run 9 (some 79) (.indexAddr 28 (.tmp 76) (.tmp 78)) ?v18_77_87 (by rfl) (by kernel_rfl) (by kernel_rfl) (by kernel_rfl) (fun _ _ _ h => h) (fun o ho w hS => ?y18_77_87) (by assumption) ?r18_77_87
            case y18_77_87 => (try dsimp only at hS); unfold execOp; simp only [ho]; go_simp; try with_reducible rfl
            try simp only [Act.put, List.setIfInBounds_toArray, List.set_cons_zero, List.set_cons_succ]
            refine held_run 10 (some 80) (.fieldAddr 39 (.tmp 79) 2) ?v18_77_88 (by rfl) (by kernel_rfl) (by kernel_rfl) (by kernel_rfl) (fun _ _ _ h => h) (fun o ho w hS => ?y18_77_88) (by assumption) ?r18_77_88
            case y18_77_88 => (try dsimp only at hS); unfold execOp; simp only [ho]; go_simp; try with_reducible rfl
            try simp only [Act.put, List.setIfInBounds_toArray, List.set_cons_zero, List.set_cons_succ]
            refine held_run 11 (some 81) (.load 3 (.tmp 80)) ?v18_77_89 (by rfl) (by kernel_rfl) (by kernel_rfl) (by kernel_rfl) (fun _ _ _ h => h) (fun o ho w hS => ?y18_77_89) (by assumption) ?r18_77_89
            case y18_77_89 => (try dsimp only at hS); unfold execOp; simp only [ho]; go_simp; try with_reducible rfl
            try simp only [Act.put, List.setIfInBounds_toArray, List.set_cons_zero, List.set_cons_succ]
            refine held_run 12 (some 82) (.binOp .lss 3 (.tmp 74) (.tmp 81) 3) ?v18_77_90 (by rfl) (by kernel_rfl) (by kernel_rfl) (by kernel_rfl) (fun _ _ _ h => h) (fun o ho w hS => ?y18_77_90) (by assumption) ?r18_77_90
            case y18_77_90 => (try dsimp only at hS); unfold execOp; simp only [ho]; go_simp; try with_reducible rfl
            try simp only [Act.put, List.setIfInBounds_toArray, List.set_cons_zero, List.set_cons_succ]
            refine held_run 13 (some 83) (.pick (.tmp 72) (.tmp 82) (.const (Value.bool false))) ?v18_77_91 (by rfl) (by kernel_rfl) (by kernel_rfl) (by kernel_rfl) (fun _ _ _ h => h) (fun o ho w hS => ?y18_77_91) (by assumption) ?r18_77_91
            case y18_77_91 => (try dsimp only at hS); unfold execOp; simp only [ho]; go_simp; try with_reducible rfl
            try simp only [Act.put, List.setIfInBounds_toArray, List.set_cons_zero, List.set_cons_succ]
            refine held_run 14 (some 84) (.move (.tmp 83)) ?v18_77_92 (by rfl) (by kernel_rfl) (by kernel_rfl) (by kernel_rfl) (fun _ _ _ h => h) (fun o ho w hS => ?y18_77_92) (by assumption) ?r18_77_92
            case y18_77_92 => (try dsimp only at hS); unfold execOp; simp only [ho]; go_simp; try with_reducible rfl
            try simp only [Act.put, List.setIfInBounds_toArray, List.set_cons_zero, List.set_cons_succ]
            refine held_skip 15 (some 85) (by rfl) (by kernel_rfl) (by kernel_rfl) (by kernel_rfl) (fun _ _ _ h => h) (by assumption) ?_
            try simp only [Act.put, List.setIfInBounds_toArray, List.set_cons_zero, List.set_cons_succ]
            refine held_skip 16 (some 86) (by rfl) (by kernel_rfl) (by kernel_rfl) (by kernel_rfl) (fun _ _ _ h => h) (by assumption) ?_
            try simp only [Act.put, List.setIfInBounds_toArray, List.set_cons_zero, List.set_cons_succ]
            refine held_skip 17 (some 87) (by rfl) (by kernel_rfl) (by kernel_rfl) (by kernel_rfl) (fun _ _ _ h => h) (by assumption) ?_
            try simp only [Act.put, List.setIfInBounds_toArray, List.set_cons_zero, List.set_cons_succ]
            refine held_skip 18 (some 88) (by rfl) (by kernel_rfl) (by kernel_rfl) (by kernel_rfl) (fun _ _ _ h => h) (by assumption) ?_
            try simp only [Act.put, List.setIfInBounds_toArray, List.set_cons_zero, List.set_cons_succ]
            refine held_skip 19 (some 89) (by rfl) (by kernel_rfl) (by kernel_rfl) (by kernel_rfl) (fun _ _ _ h => h) (by assumption) ?_
            try simp only [Act.put, List.setIfInBounds_toArray, List.set_cons_zero, List.set_cons_succ]
            refine held_skip 20 (some 90) (by rfl) (by kernel_rfl) (by kernel_rfl) (by kernel_rfl) (fun _ _ _ h => h) (by assumption) ?_
            try simp only [Act.put, List.setIfInBounds_toArray, List.set_cons_zero, List.set_cons_succ]
            refine held_skip 21 (some 91) (by rfl) (by kernel_rfl) (by kernel_rfl) (by kernel_rfl) (fun _ _ _ h => h) (by assumption) ?_
            try simp only [Act.put, List.setIfInBounds_toArray, List.set_cons_zero, List.set_cons_succ]
            refine held_skip 22 (some 92) (by rfl) (by kernel_rfl) (by kernel_rfl) (by kernel_rfl) (fun _ _ _ h => h) (by assumption) ?_
            try simp only [Act.put, List.setIfInBounds_toArray, List.set_cons_zero, List.set_cons_succ]
            refine held_skip 23 (some 93) (by rfl) (by kernel_rfl) (by kernel_rfl) (by kernel_rfl) (fun _ _ _ h => h) (by assumption) ?_
            try simp only [Act.put, List.setIfInBounds_toArray, List.set_cons_zero, List.set_cons_succ]
            refine held_skip 24 (some 94) (by rfl) (by kernel_rfl) (by kernel_rfl) (by kernel_rfl) (fun _ _ _ h => h) (by assumption) ?_
            try simp only [Act.put, List.setIfInBounds_toArray, List.set_cons_zero, List.set_cons_succ]
            refine held_skip 25 (some 95) (by rfl) (by kernel_rfl) (by kernel_rfl) (by kernel_rfl) (fun _ _ _ h => h) (by assumption) ?_
            try simp only [Act.put, List.setIfInBounds_toArray, List.set_cons_zero, List.set_cons_succ]
            refine held_run 26 (some 96) (.pick (.tmp 84) (.const (Value.bool true)) (.tmp 95)) ?v18_77_104 (by rfl) (by kernel_rfl) (by kernel_rfl) (by kernel_rfl) (fun _ _ _ h => h) (fun o ho w hS => ?y18_77_104) (by assumption) ?r18_77_104
            case y18_77_104 => (try dsimp only at hS); unfold execOp; simp only [ho]; go_simp; try with_reducible rfl
            try simp only [Act.put, List.setIfInBounds_toArray, List.set_cons_zero, List.set_cons_succ]
            refine held_run 27 (some 69) (.assign (.tmp 96)) ?v18_77_105 (by rfl) (by kernel_rfl) (by kernel_rfl) (by kernel_rfl) (fun _ _ _ h => h) (fun o ho w hS => ?y18_77_105) (by assumption) ?r18_77_105
            case y18_77_105 => (try dsimp only at hS); unfold execOp; simp only [ho]; go_simp; try with_reducible rfl
            try simp only [Act.put, List.setIfInBounds_toArray, List.set_cons_zero, List.set_cons_succ]
            refine wpAnyH_done (by kernel_rfl) ?_ _
            clear hwr
            go_wp2_with fail
            go_ret
            exact ⟨ret_i HZ.out.symm, HW2.out.drew⟩
          · have d9 : decide (att < p) = false := decide_eq_false h3
            cases poss with
            | false =>
              have HZ : Hid (r = 11) := hide (by
                  have h : f k = 11 := by rw [HVk.out, if_neg (by simp), if_neg (by simp), if_neg (not_not_intro HIn.out), if_pos (.inr rfl)]
                  rw [HYes.out (by rw [h]; decide), h])
              have HS : Hid (∀ W, Below w2.heap.size w2 W → (fun W => Below w2.heap.size w2 W ∧ Blk W w.heap.size 27 #[vn, vl, vr, vb] ∧ Blk W wo.heap.size 39 #[.int .i64 run, .int .i64 byy, .int .i64 att, .int .i64 fnd] ∧ W.cell? ⟨wo.heap.size, 0, none⟩ = some (.int .i64 run) ∧ W.cell? ⟨wo.heap.size, 2, none⟩ = some (.int .i64 att) ∧ W.cell? ⟨w.heap.size + 1, 0, none⟩ = some (.slice A1 n1 c1) ∧ W.cell? ⟨w.heap.size + 1, 1, none⟩ = some (.slice (some ad) n c) ∧ W.cell? ⟨(ad.add (k' * 4)).block, (ad.add (k' * 4)).off + 2, none⟩ = some (.int .i64 p)) W) := fun W hB => ⟨hB, HX02.out.below hB (Nat.lt_of_lt_of_le hxx0 hsz2), HYd.out.below hB hlyd, (HYd.out.below hB hlyd).cell 0, (HYd.out.below hB hlyd).cell 2, (HX12.out.below hB (Nat.lt_of_lt_of_le hxx1 hsz2)).cell 0, (HX12.out.below hB (Nat.lt_of_lt_of_le hxx1 hsz2)).cell 1, (hB.cell (p := ⟨(ad.add (k' * 4)).block, (ad.add (k' * 4)).off + 2, none⟩) (by show (ad.add (k' * 4)).block < _; rw [block_of_add]; exact Nat.lt_of_lt_of_le hab HWpd.out.size)).trans HCp.out⟩
              have h0 := HS.out _ ((Below.refl w2.heap.size w2).drew)
              go_wp2_with fail
              refine wp_region_held_drew (S := fun W => Below w2.heap.size w2 W ∧ Blk W w.heap.size 27 #[vn, vl, vr, vb] ∧ Blk W wo.heap.size 39 #[.int .i64 run, .int .i64 byy, .int .i64 att, .int .i64 fnd] ∧ W.cell? ⟨wo.heap.size, 0, none⟩ = some (.int .i64 run) ∧ W.cell? ⟨wo.heap.size, 2, none⟩ = some (.int .i64 att) ∧ W.cell? ⟨w.heap.size + 1, 0, none⟩ = some (.slice A1 n1 c1) ∧ W.cell? ⟨w.heap.size + 1, 1, none⟩ = some (.slice (some ad) n c) ∧ W.cell? ⟨(ad.add (k' * 4)).block, (ad.add (k' * 4)).off + 2, none⟩ = some (.int .i64 p)) (by kernel_rfl) (h0) (fun hHeld => ?_)
              refine held_run 0 (some 70) (.move (.tmp 6)) ?v18_106_107 (by rfl) (by kernel_rfl) (by kernel_rfl) (by kernel_rfl) (fun _ _ _ h => h) (fun o ho w hS => ?y18_106_107) (by assumption) ?r18_106_107
              case y18_106_107 => (try dsimp only at hS); unfold execOp; simp only [ho]; go_simp; try with_reducible rfl
              try simp only [Act.put, List.setIfInBounds_toArray, List.set_cons_zero, List.set_cons_succ]
              refine held_run 1 (some 71) (.binOp .gtr 3 (.tmp 70) (.const (.int .i64 0)) 3) ?v18_106_108 (by rfl) (by kernel_rfl) (by kernel_rfl) (by kernel_rfl) (fun _ _ _ h => h) (fun o ho w hS => ?y18_106_108) (by assumption) ?r18_106_108
              case y18_106_108 => (try dsimp only at hS); unfold execOp; simp only [ho]; go_simp; try with_reducible rfl
              try simp only [Act.put, List.setIfInBounds_toArray, List.set_cons_zero, List.set_cons_succ]
              refine held_run 2 (some 72) (.move (.tmp 71)) ?v18_106_109 (by rfl) (by kernel_rfl) (by kernel_rfl) (by kernel_rfl) (fun _ _ _ h => h) (fun o ho w hS => ?y18_106_109) (by assumption) ?r18_106_109
              case y18_106_109 => (try dsimp only at hS); unfold execOp; simp only [ho]; go_simp; try with_reducible rfl
              try simp only [Act.put, List.setIfInBounds_toArray, List.set_cons_zero, List.set_cons_succ]
              refine held_run 3 (some 73) (.fieldAddr 39 (.tmp 7) 2) ?v18_106_110 (by rfl) (by kernel_rfl) (by kernel_rfl) (by kernel_rfl) (fun _ _ _ h => h) (fun o ho w hS => ?y18_106_110) (by assumption) ?r18_106_110
              case y18_106_110 => (try dsimp only at hS); unfold execOp; simp only [ho]; go_simp; try with_reducible rfl
              try simp only [Act.put, List.setIfInBounds_toArray, List.set_cons_zero, List.set_cons_succ]
              refine held_run 4 (some 74) (.load 3 (.tmp 73)) ?v18_106_111 (by rfl) (by kernel_rfl) (by kernel_rfl) (by kernel_rfl) (fun _ _ _ h => h) (fun o ho w hS => ?y18_106_111) (by assumption) ?r18_106_111
              case y18_106_111 => (try dsimp only at hS); unfold execOp; simp only [ho]; go_simp; try with_reducible rfl
              try simp only [Act.put, List.setIfInBounds_toArray, List.set_cons_zero, List.set_cons_succ]
              refine held_run 5 (some 75) (.fieldAddr 30 (.tmp 3) 1) ?v18_106_112 (by rfl) (by kernel_rfl) (by kernel_rfl) (by kernel_rfl) (fun _ _ _ h => h) (fun o ho w hS => ?y18_106_112) (by assumption) ?r18_106_112
              case y18_106_112 => (try dsimp only at hS); unfold execOp; simp only [ho]; go_simp; try with_reducible rfl
              try simp only [Act.put, List.setIfInBounds_toArray, List.set_cons_zero, List.set_cons_succ]
              refine held_run 6 (some 76) (.load 28 (.tmp 75)) ?v18_106_113 (by rfl) (by kernel_rfl) (by kernel_rfl) (by kernel_rfl) (fun _ _ _ h => h) (fun o ho w hS => ?y18_106_113) (by assumption) ?r18_106_113
              case y18_106_113 => (try dsimp only at hS); unfold execOp; simp only [ho]; go_simp; try with_reducible rfl
              try simp only [Act.put, List.setIfInBounds_toArray, List.set_cons_zero, List.set_cons_succ]
              refine held_run 7 (some 77) (.move (.tmp 6)) ?v18_106_114 (by rfl) (by kernel_rfl) (by kernel_rfl) (by kernel_rfl) (fun _ _ _ h => h) (fun o ho w hS => ?y18_106_114) (by assumption) ?r18_106_114
              case y18_106_114 => (try dsimp only at hS); unfold execOp; simp only [ho]; go_simp; try with_reducible rfl
              try simp only [Act.put, List.setIfInBounds_toArray, List.set_cons_zero, List.set_cons_succ]
              refine held_run 8 (some 78) (.binOp .sub 3 (.tmp 77) (.const (.int .i64 1)) 3) ?v18_106_115 (by rfl) (by kernel_rfl) (by kernel_rfl) (by kernel_rfl) (fun _ _ _ h => h) (fun o ho w hS => ?y18_106_115) (by assumption) ?r18_106_115
              case y18_106_115 => (try dsimp only at hS); unfold execOp; simp only [ho]; go_simp; try with_reducible rfl
              try simp only [Act.put, List.setIfInBounds_toArray, List.set_cons_zero, List.set_cons_succ]
              refine held_run 9 (some 79) (.indexAddr 28 (.tmp 76) (.tmp 78)) ?v18_106_116 (by rfl) (by kernel_rfl) (by kernel_rfl) (by kernel_rfl) (fun _ _ _ h => h) (fun o ho w hS => ?y18_106_116) (by assumption) ?r18_106_116
              case y18_106_116 => (try dsimp only at hS); unfold execOp; simp only [ho]; go_simp; try with_reducible rfl
              try simp only [Act.put, List.setIfInBounds_toArray, List.set_cons_zero, List.set_cons_succ]
              refine held_run 10 (some 80) (.fieldAddr 39 (.tmp 79) 2) ?v18_106_117 (by rfl) (by kernel_rfl) (by kernel_rfl) (by kernel_rfl) (fun _ _ _ h => h) (fun o ho w hS => ?y18_106_117) (by assumption) ?r18_106_117
              case y18_106_117 => (try dsimp only at hS); unfold execOp; simp only [ho]; go_simp; try with_reducible rfl
              try simp only [Act.put, List.setIfInBounds_toArray, List.set_cons_zero, List.set_cons_succ]
              refine held_run 11 (some 81) (.load 3 (.tmp 80)) ?v18_106_118 (by rfl) (by kernel_rfl) (by kernel_rfl) (by kernel_rfl) (fun _ _ _ h => h) (fun o ho w hS => ?y18_106_118) (by assumption) ?r18_106_118
              case y18_106_118 => (try dsimp only at hS); unfold execOp; simp only [ho]; go_simp; try with_reducible rfl
              try simp only [Act.put, List.setIfInBounds_toArray, List.set_cons_zero, List.set_cons_succ]
              refine held_run 12 (some 82) (.binOp .lss 3 (.tmp 74) (.tmp 81) 3) ?v18_106_119 (by rfl) (by kernel_rfl) (by kernel_rfl) (by kernel_rfl) (fun _ _ _ h => h) (fun o ho w hS => ?y18_106_119) (by assumption) ?r18_106_119
              case y18_106_119 => (try dsimp only at hS); unfold execOp; simp only [ho]; go_simp; try with_reducible rfl
              try simp only [Act.put, List.setIfInBounds_toArray, List.set_cons_zero, List.set_cons_succ]
              refine held_run 13 (some 83) (.pick (.tmp 72) (.tmp 82) (.const (Value.bool false))) ?v18_106_120 (by rfl) (by kernel_rfl) (by kernel_rfl) (by kernel_rfl) (fun _ _ _ h => h) (fun o ho w hS => ?y18_106_120) (by assumption) ?r18_106_120
              case y18_106_120 => (try dsimp only at hS); unfold execOp; simp only [ho]; go_simp; try with_reducible rfl
              try simp only [Act.put, List.setIfInBounds_toArray, List.set_cons_zero, List.set_cons_succ]
              refine held_run 14 (some 84) (.move (.tmp 83)) ?v18_106_121 (by rfl) (by kernel_rfl) (by kernel_rfl) (by kernel_rfl) (fun _ _ _ h => h) (fun o ho w hS => ?y18_106_121) (by assumption) ?r18_106_121
              case y18_106_121 => (try dsimp only at hS); unfold execOp; simp only [ho]; go_simp; try with_reducible rfl
              try simp only [Act.put, List.setIfInBounds_toArray, List.set_cons_zero, List.set_cons_succ]
              refine held_load 15 (some 85) 27 (.tmp 2) (by rfl) (by kernel_rfl) (by kernel_rfl) (by kernel_rfl) (w.heap.size) 27 #[vn, vl, vr, vb] (fun _ _ _ h => h) (by rfl) (fun _ h => h.2.1) _ Try.underlying27 rfl (by kernel_rfl) (by assumption) ?_
              try simp only [Act.put, List.setIfInBounds_toArray, List.set_cons_zero, List.set_cons_succ]
              refine held_run 16 (some 86) (.fieldAddr 30 (.tmp 3) 0) ?v18_106_123 (by rfl) (by kernel_rfl) (by kernel_rfl) (by kernel_rfl) (fun _ _ _ h => h) (fun o ho w hS => ?y18_106_123) (by assumption) ?r18_106_123
              case y18_106_123 => (try dsimp only at hS); unfold execOp; simp only [ho]; go_simp; try with_reducible rfl
              try simp only [Act.put, List.setIfInBounds_toArray, List.set_cons_zero, List.set_cons_succ]
              refine held_run 17 (some 87) (.load 25 (.tmp 86)) ?v18_106_124 (by rfl) (by kernel_rfl) (by kernel_rfl) (by kernel_rfl) (fun _ _ _ h => h) (fun o ho w hS => ?y18_106_124) (by assumption) ?r18_106_124
              case y18_106_124 => (try dsimp only at hS); unfold execOp; simp only [ho]; go_simp; try with_reducible rfl
              try simp only [Act.put, List.setIfInBounds_toArray, List.set_cons_zero, List.set_cons_succ]
              refine held_run 18 (some 88) (.fieldAddr 30 (.tmp 3) 1) ?v18_106_125 (by rfl) (by kernel_rfl) (by kernel_rfl) (by kernel_rfl) (fun _ _ _ h => h) (fun o ho w hS => ?y18_106_125) (by assumption) ?r18_106_125
              case y18_106_125 => (try dsimp only at hS); unfold execOp; simp only [ho]; go_simp; try with_reducible rfl
              try simp only [Act.put, List.setIfInBounds_toArray, List.set_cons_zero, List.set_cons_succ]
              refine held_run 19 (some 89) (.load 28 (.tmp 88)) ?v18_106_126 (by rfl) (by kernel_rfl) (by kernel_rfl) (by kernel_rfl) (fun _ _ _ h => h) (fun o ho w hS => ?y18_106_126) (by assumption) ?r18_106_126
              case y18_106_126 => (try dsimp only at hS); unfold execOp; simp only [ho]; go_simp; try with_reducible rfl
              try simp only [Act.put, List.setIfInBounds_toArray, List.set_cons_zero, List.set_cons_succ]
              refine held_run 20 (some 90) (.move (.tmp 6)) ?v18_106_127 (by rfl) (by kernel_rfl) (by kernel_rfl) (by kernel_rfl) (fun _ _ _ h => h) (fun o ho w hS => ?y18_106_127) (by assumption) ?r18_106_127
              case y18_106_127 => (try dsimp only at hS); unfold execOp; simp only [ho]; go_simp; try with_reducible rfl
              try simp only [Act.put, List.setIfInBounds_toArray, List.set_cons_zero, List.set_cons_succ]
              refine held_run 21 (some 91) (.slice 28 (.tmp 89) none (some (.tmp 90)) none) ?v18_106_128 (by rfl) (by kernel_rfl) (by kernel_rfl) (by kernel_rfl) (fun _ _ _ h => h) (fun o ho w hS => ?y18_106_128) (by assumption) ?r18_106_128
              case y18_106_128 => (try dsimp only at hS); unfold execOp; simp only [ho]; go_simp; try with_reducible rfl
              try simp only [Act.put, List.setIfInBounds_toArray, List.set_cons_zero, List.set_cons_succ]
              refine held_run 22 (some 92) (.fieldAddr 39 (.tmp 7) 0) ?v18_106_129 (by rfl) (by kernel_rfl) (by kernel_rfl) (by kernel_rfl) (fun _ _ _ h => h) (fun o ho w hS => ?y18_106_129) (by assumption) ?r18_106_129
              case y18_106_129 => (try dsimp only at hS); unfold execOp; simp only [ho]; go_simp; try with_reducible rfl
              try simp only [Act.put, List.setIfInBounds_toArray, List.set_cons_zero, List.set_cons_succ]
              refine held_run 23 (some 93) (.load 3 (.tmp 92)) ?v18_106_130 (by rfl) (by kernel_rfl) (by kernel_rfl) (by kernel_rfl) (fun _ _ _ h => h) (fun o ho w hS => ?y18_106_130) (by assumption) ?r18_106_130
              case y18_106_130 => (try dsimp only at hS); unfold execOp; simp only [ho]; go_simp; try with_reducible rfl
              try simp only [Act.put, List.setIfInBounds_toArray, List.set_cons_zero, List.set_cons_succ]
              refine held_call 24 (some 94) 47 [(.tmp 85), (.tmp 87), (.tmp 91), (.tmp 93)] #[27, 25, 28, 3] #[.agg #[vn, vl, vr, vb], .slice A1 n1 c1, .slice (some ad) k c, .int .i64 run] (by rfl) (by rfl) (by kernel_rfl) Try.func47 (by rfl) (by rfl) ?_
              refine (HC.out run k (.slice (some ad) k c) _ HM2d.out HRv2d.out HFd2.out).mono ?_
              rw [HP.out]
              rintro e w3 ⟨rfl, hb3⟩
              have hbb3 : Below w2.heap.size w2 w3 := (Below.refl w2.heap.size w2).drew.trans hb3
              have HB3 := Lib.hid (HB2.out.trans (hbb3.mono hsz2))
              have HW3 := Lib.hid (HW2.out.trans (hbb3.mono HW2.out.size))
              have hsz3 : wb.heap.size ≤ w3.heap.size := Nat.le_trans hsz2 hbb3.size
              have HX03 := Lib.hid (HX02.out.below hbb3 (Nat.lt_of_lt_of_le hxx0 hsz2))
              have HX13 := Lib.hid (HX12.out.below hbb3 (Nat.lt_of_lt_of_le hxx1 hsz2))
              have HM3 := Lib.hid (HM2.out.now hbb3)
              have HR13 := Lib.hid (HR12.out.now hbb3)
              have HR3 := Lib.hid (HR2.out.now hbb3)
              have HBv3 := Lib.hid (HBv2.out.now hbb3)
              have HRv3 := Lib.hid (HRv2.out.now hbb3)
              clear h0
              have h0 := HS.out _ hbb3
              refine ⟨_, rfl, h0, ?_⟩
              clear hb3 hbb3
              try simp only [Act.put, List.setIfInBounds_toArray, List.set_cons_zero, List.set_cons_succ]
              refine held_run 25 (some 95) (.unOp .not 4 (.tmp 94)) ?v18_106_132 (by rfl) (by kernel_rfl) (by kernel_rfl) (by kernel_rfl) (fun _ _ _ h => h) (fun o ho w hS => ?y18_106_132) (by assumption) ?r18_106_132
              case y18_106_132 => (try dsimp only at hS); unfold execOp; simp only [ho]; go_simp; try with_reducible rfl
              try simp only [Act.put, List.setIfInBounds_toArray, List.set_cons_zero, List.set_cons_succ]
              refine held_run 26 (some 96) (.pick (.tmp 84) (.const (Value.bool true)) (.tmp 95)) ?v18_106_133 (by rfl) (by kernel_rfl) (by kernel_rfl) (by kernel_rfl) (fun _ _ _ h => h) (fun o ho w hS => ?y18_106_133) (by assumption) ?r18_106_133
              case y18_106_133 => (try dsimp only at hS); unfold execOp; simp only [ho]; go_simp; try with_reducible rfl
              try simp only [Act.put, List.setIfInBounds_toArray, List.set_cons_zero, List.set_cons_succ]
              refine held_run 27 (some 69) (.assign (.tmp 96)) ?v18_106_134 (by rfl) (by kernel_rfl) (by kernel_rfl) (by kernel_rfl) (fun _ _ _ h => h) (fun o ho w hS => ?y18_106_134) (by assumption) ?r18_106_134
              case y18_106_134 => (try dsimp only at hS); unfold execOp; simp only [ho]; go_simp; try with_reducible rfl
              try simp only [Act.put, List.setIfInBounds_toArray, List.set_cons_zero, List.set_cons_succ]
              refine wpAnyH_done (by kernel_rfl) ?_ _
              clear hwr
              go_wp2_with fail
              go_ret
              exact ⟨ret_i HZ.out.symm, HW3.out⟩
            | true =>
              have HGo : Hid (r = errF f (k + 1) (n - (k + 1))) := hide (HNo.out (by rw [HVk.out, if_neg (by simp), if_neg (by simp), if_neg (not_not_intro HIn.out), if_neg (fun h => h.elim (fun h => h3 h.2) (fun h => by cases h))]))
              have HS : Hid (∀ W, Below w2.heap.size w2 W → (fun W => Below w2.heap.size w2 W ∧ Blk W w.heap.size 27 #[vn, vl, vr, vb] ∧ Blk W wo.heap.size 39 #[.int .i64 run, .int .i64 byy, .int .i64 att, .int .i64 fnd] ∧ W.cell? ⟨wo.heap.size, 0, none⟩ = some (.int .i64 run) ∧ W.cell? ⟨wo.heap.size, 2, none⟩ = some (.int .i64 att) ∧ W.cell? ⟨w.heap.size + 1, 0, none⟩ = some (.slice A1 n1 c1) ∧ W.cell? ⟨w.heap.size + 1, 1, none⟩ = some (.slice (some ad) n c) ∧ W.cell? ⟨(ad.add (k' * 4)).block, (ad.add (k' * 4)).off + 2, none⟩ = some (.int .i64 p)) W) := fun W hB => ⟨hB, HX02.out.below hB (Nat.lt_of_lt_of_le hxx0 hsz2), HYd.out.below hB hlyd, (HYd.out.below hB hlyd).cell 0, (HYd.out.below hB hlyd).cell 2, (HX12.out.below hB (Nat.lt_of_lt_of_le hxx1 hsz2)).cell 0, (HX12.out.below hB (Nat.lt_of_lt_of_le hxx1 hsz2)).cell 1, (hB.cell (p := ⟨(ad.add (k' * 4)).block, (ad.add (k' * 4)).off + 2, none⟩) (by show (ad.add (k' * 4)).block < _; rw [block_of_add]; exact Nat.lt_of_lt_of_le hab HWpd.out.size)).trans HCp.out⟩
              have h0 := HS.out _ ((Below.refl w2.heap.size w2).drew)
              go_wp2_with fail
              refine wp_region_held_drew (S := fun W => Below w2.heap.size w2 W ∧ Blk W w.heap.size 27 #[vn, vl, vr, vb] ∧ Blk W wo.heap.size 39 #[.int .i64 run, .int .i64 byy, .int .i64 att, .int .i64 fnd] ∧ W.cell? ⟨wo.heap.size, 0, none⟩ = some (.int .i64 run) ∧ W.cell? ⟨wo.heap.size, 2, none⟩ = some (.int .i64 att) ∧ W.cell? ⟨w.heap.size + 1, 0, none⟩ = some (.slice A1 n1 c1) ∧ W.cell? ⟨w.heap.size + 1, 1, none⟩ = some (.slice (some ad) n c) ∧ W.cell? ⟨(ad.add (k' * 4)).block, (ad.add (k' * 4)).off + 2, none⟩ = some (.int .i64 p)) (by kernel_rfl) (h0) (fun hHeld => ?_)
              refine held_run 0 (some 70) (.move (.tmp 6)) ?v18_135_136 (by rfl) (by kernel_rfl) (by kernel_rfl) (by kernel_rfl) (fun _ _ _ h => h) (fun o ho w hS => ?y18_135_136) (by assumption) ?r18_135_136
              case y18_135_136 => (try dsimp only at hS); unfold execOp; simp only [ho]; go_simp; try with_reducible rfl
              try simp only [Act.put, List.setIfInBounds_toArray, List.set_cons_zero, List.set_cons_succ]
              refine held_run 1 (some 71) (.binOp .gtr 3 (.tmp 70) (.const (.int .i64 0)) 3) ?v18_135_137 (by rfl) (by kernel_rfl) (by kernel_rfl) (by kernel_rfl) (fun _ _ _ h => h) (fun o ho w hS => ?y18_135_137) (by assumption) ?r18_135_137
              case y18_135_137 => (try dsimp only at hS); unfold execOp; simp only [ho]; go_simp; try with_reducible rfl
              try simp only [Act.put, List.setIfInBounds_toArray, List.set_cons_zero, List.set_cons_succ]
              refine held_run 2 (some 72) (.move (.tmp 71)) ?v18_135_138 (by rfl) (by kernel_rfl) (by kernel_rfl) (by kernel_rfl) (fun _ _ _ h => h) (fun o ho w hS => ?y18_135_138) (by assumption) ?r18_135_138
              case y18_135_138 => (try dsimp only at hS); unfold execOp; simp only [ho]; go_simp; try with_reducible rfl
              try simp only [Act.put, List.setIfInBounds_toArray, List.set_cons_zero, List.set_cons_succ]
              refine held_run 3 (some 73) (.fieldAddr 39 (.tmp 7) 2) ?v18_135_139 (by rfl) (by kernel_rfl) (by kernel_rfl) (by kernel_rfl) (fun _ _ _ h => h) (fun o ho w hS => ?y18_135_139) (by assumption) ?r18_135_139
              case y18_135_139 => (try dsimp only at hS); unfold execOp; simp only [ho]; go_simp; try with_reducible rfl
              try simp only [Act.put, List.setIfInBounds_toArray, List.set_cons_zero, List.set_cons_succ]
              refine held_run 4 (some 74) (.load 3 (.tmp 73)) ?v18_135_140 (by rfl) (by kernel_rfl) (by kernel_rfl) (by kernel_rfl) (fun _ _ _ h => h) (fun o ho w hS => ?y18_135_140) (by assumption) ?r18_135_140
              case y18_135_140 => (try dsimp only at hS); unfold execOp; simp only [ho]; go_simp; try with_reducible rfl
              try simp only [Act.put, List.setIfInBounds_toArray, List.set_cons_zero, List.set_cons_succ]
              refine held_run 5 (some 75) (.fieldAddr 30 (.tmp 3) 1) ?v18_135_141 (by rfl) (by kernel_rfl) (by kernel_rfl) (by kernel_rfl) (fun _ _ _ h => h) (fun o ho w hS => ?y18_135_141) (by assumption) ?r18_135_141
              case y18_135_141 => (try dsimp only at hS); unfold execOp; simp only [ho]; go_simp; try with_reducible rfl
              try simp only [Act.put, List.setIfInBounds_toArray, List.set_cons_zero, List.set_cons_succ]
              refine held_run 6 (some 76) (.load 28 (.tmp 75)) ?v18_135_142 (by rfl) (by kernel_rfl) (by kernel_rfl) (by kernel_rfl) (fun _ _ _ h => h) (fun o ho w hS => ?y18_135_142) (by assumption) ?r18_135_142
              case y18_135_142 => (try dsimp only at hS); unfold execOp; simp only [ho]; go_simp; try with_reducible rfl
              try simp only [Act.put, List.setIfInBounds_toArray, List.set_cons_zero, List.set_cons_succ]
              refine held_run 7 (some 77) (.move (.tmp 6)) ?v18_135_143 (by rfl) (by kernel_rfl) (by kernel_rfl) (by kernel_rfl) (fun _ _ _ h => h) (fun o ho w hS => ?y18_135_143) (by assumption) ?r18_135_143
              case y18_135_143 => (try dsimp only at hS); unfold execOp; simp only [ho]; go_simp; try with_reducible rfl
              try simp only [Act.put, List.setIfInBounds_toArray, List.set_cons_zero, List.set_cons_succ]
              refine held_run 8 (some 78) (.binOp .sub 3 (.tmp 77) (.const (.int .i64 1)) 3) ?v18_135_144 (by rfl) (by kernel_rfl) (by kernel_rfl) (by kernel_rfl) (fun _ _ _ h => h) (fun o ho w hS => ?y18_135_144) (by assumption) ?r18_135_144
              case y18_135_144 => (try dsimp only at hS); unfold execOp; simp only [ho]; go_simp; try with_reducible rfl
              try simp only [Act.put, List.setIfInBounds_toArray, List.set_cons_zero, List.set_cons_succ]
              refine held_run 9 (some 79) (.indexAddr 28 (.tmp 76) (.tmp 78)) ?v18_135_145 (by rfl) (by kernel_rfl) (by kernel_rfl) (by kernel_rfl) (fun _ _ _ h => h) (fun o ho w hS => ?y18_135_145) (by assumption) ?r18_135_145
              case y18_135_145 => (try dsimp only at hS); unfold execOp; simp only [ho]; go_simp; try with_reducible rfl
              try simp only [Act.put, List.setIfInBounds_toArray, List.set_cons_zero, List.set_cons_succ]
              refine held_run 10 (some 80) (.fieldAddr 39 (.tmp 79) 2) ?v18_135_146 (by rfl) (by kernel_rfl) (by kernel_rfl) (by kernel_rfl) (fun _ _ _ h => h) (fun o ho w hS => ?y18_135_146) (by assumption) ?r18_135_146
              case y18_135_146 => (try dsimp only at hS); unfold execOp; simp only [ho]; go_simp; try with_reducible rfl
              try simp only [Act.put, List.setIfInBounds_toArray, List.set_cons_zero, List.set_cons_succ]
              refine held_run 11 (some 81) (.load 3 (.tmp 80)) ?v18_135_147 (by rfl) (by kernel_rfl) (by kernel_rfl) (by kernel_rfl) (fun _ _ _ h => h) (fun o ho w hS => ?y18_135_147) (by assumption) ?r18_135_147
              case y18_135_147 => (try dsimp only at hS); unfold execOp; simp only [ho]; go_simp; try with_reducible rfl
              try simp only [Act.put, List.setIfInBounds_toArray, List.set_cons_zero, List.set_cons_succ]
              refine held_run 12 (some 82) (.binOp .lss 3 (.tmp 74) (.tmp 81) 3) ?v18_135_148 (by rfl) (by kernel_rfl) (by kernel_rfl) (by kernel_rfl) (fun _ _ _ h => h) (fun o ho w hS => ?y18_135_148) (by assumption) ?r18_135_148
              case y18_135_148 => (try dsimp only at hS); unfold execOp; simp only [ho]; go_simp; try with_reducible rfl
              try simp only [Act.put, List.setIfInBounds_toArray, List.set_cons_zero, List.set_cons_succ]
              refine held_run 13 (some 83) (.pick (.tmp 72) (.tmp 82) (.const (Value.bool false))) ?v18_135_149 (by rfl) (by kernel_rfl) (by kernel_rfl) (by kernel_rfl) (fun _ _ _ h => h) (fun o ho w hS => ?y18_135_149) (by assumption) ?r18_135_149
              case y18_135_149 => (try dsimp only at hS); unfold execOp; simp only [ho]; go_simp; try with_reducible rfl
              try simp only [Act.put, List.setIfInBounds_toArray, List.set_cons_zero, List.set_cons_succ]
              refine held_run 14 (some 84) (.move (.tmp 83)) ?v18_135_150 (by rfl) (by kernel_rfl) (by kernel_rfl) (by kernel_rfl) (fun _ _ _ h => h) (fun o ho w hS => ?y18_135_150) (by assumption) ?r18_135_150
              case y18_135_150 => (try dsimp only at hS); unfold execOp; simp only [ho]; go_simp; try with_reducible rfl
              try simp only [Act.put, List.setIfInBounds_toArray, List.set_cons_zero, List.set_cons_succ]
              refine held_load 15 (some 85) 27 (.tmp 2) (by rfl) (by kernel_rfl) (by kernel_rfl) (by kernel_rfl) (w.heap.size) 27 #[vn, vl, vr, vb] (fun _ _ _ h => h) (by rfl) (fun _ h => h.2.1) _ Try.underlying27 rfl (by kernel_rfl) (by assumption) ?_
              try simp only [Act.put, List.setIfInBounds_toArray, List.set_cons_zero, List.set_cons_succ]
              refine held_run 16 (some 86) (.fieldAddr 30 (.tmp 3) 0) ?v18_135_152 (by rfl) (by kernel_rfl) (by kernel_rfl) (by kernel_rfl) (fun _ _ _ h => h) (fun o ho w hS => ?y18_135_152) (by assumption) ?r18_135_152
              case y18_135_152 => (try dsimp only at hS); unfold execOp; simp only [ho]; go_simp; try with_reducible rfl
              try simp only [Act.put, List.setIfInBounds_toArray, List.set_cons_zero, List.set_cons_succ]
              refine held_run 17 (some 87) (.load 25 (.tmp 86)) ?v18_135_153 (by rfl) (by kernel_rfl) (by kernel_rfl) (by kernel_rfl) (fun _ _ _ h => h) (fun o ho w hS => ?y18_135_153) (by assumption) ?r18_135_153
              case y18_135_153 => (try dsimp only at hS); unfold execOp; simp only [ho]; go_simp; try with_reducible rfl
              try simp only [Act.put, List.setIfInBounds_toArray, List.set_cons_zero, List.set_cons_succ]
              refine held_run 18 (some 88) (.fieldAddr 30 (.tmp 3) 1) ?v18_135_154 (by rfl) (by kernel_rfl) (by kernel_rfl) (by kernel_rfl) (fun _ _ _ h => h) (fun o ho w hS => ?y18_135_154) (by assumption) ?r18_135_154
              case y18_135_154 => (try dsimp only at hS); unfold execOp; simp only [ho]; go_simp; try with_reducible rfl
              try simp only [Act.put, List.setIfInBounds_toArray, List.set_cons_zero, List.set_cons_succ]
              refine held_run 19 (some 89) (.load 28 (.tmp 88)) ?v18_135_155 (by rfl) (by kernel_rfl) (by kernel_rfl) (by kernel_rfl) (fun _ _ _ h => h) (fun o ho w hS => ?y18_135_155) (by assumption) ?r18_135_155
              case y18_135_155 => (try dsimp only at hS); unfold execOp; simp only [ho]; go_simp; try with_reducible rfl
              try simp only [Act.put, List.setIfInBounds_toArray, List.set_cons_zero, List.set_cons_succ]
              refine held_run 20 (some 90) (.move (.tmp 6)) ?v18_135_156 (by rfl) (by kernel_rfl) (by kernel_rfl) (by kernel_rfl) (fun _ _ _ h => h) (fun o ho w hS => ?y18_135_156) (by assumption) ?r18_135_156
              case y18_135_156 => (try dsimp only at hS); unfold execOp; simp only [ho]; go_simp; try with_reducible rfl
              try simp only [Act.put, List.setIfInBounds_toArray, List.set_cons_zero, List.set_cons_succ]
              refine held_run 21 (some 91) (.slice 28 (.tmp 89) none (some (.tmp 90)) none) ?v18_135_157 (by rfl) (by kernel_rfl) (by kernel_rfl) (by kernel_rfl) (fun _ _ _ h => h) (fun o ho w hS => ?y18_135_157) (by assumption) ?r18_135_157
              case y18_135_157 => (try dsimp only at hS); unfold execOp; simp only [ho]; go_simp; try with_reducible rfl
              try simp only [Act.put, List.setIfInBounds_toArray, List.set_cons_zero, List.set_cons_succ]
              refine held_run 22 (some 92) (.fieldAddr 39 (.tmp 7) 0) ?v18_135_158 (by rfl) (by kernel_rfl) (by kernel_rfl) (by kernel_rfl) (fun _ _ _ h => h) (fun o ho w hS => ?y18_135_158) (by assumption) ?r18_135_158
              case y18_135_158 => (try dsimp only at hS); unfold execOp; simp only [ho]; go_simp; try with_reducible rfl
              try simp only [Act.put, List.setIfInBounds_toArray, List.set_cons_zero, List.set_cons_succ]
              refine held_run 23 (some 93) (.load 3 (.tmp 92)) ?v18_135_159 (by rfl) (by kernel_rfl) (by kernel_rfl) (by kernel_rfl) (fun _ _ _ h => h) (fun o ho w hS => ?y18_135_159) (by assumption) ?r18_135_159
              case y18_135_159 => (try dsimp only at hS); unfold execOp; simp only [ho]; go_simp; try with_reducible rfl
              try simp only [Act.put, List.setIfInBounds_toArray, List.set_cons_zero, List.set_cons_succ]
              refine held_call 24 (some 94) 47 [(.tmp 85), (.tmp 87), (.tmp 91), (.tmp 93)] #[27, 25, 28, 3] #[.agg #[vn, vl, vr, vb], .slice A1 n1 c1, .slice (some ad) k c, .int .i64 run] (by rfl) (by rfl) (by kernel_rfl) Try.func47 (by rfl) (by rfl) ?_
              refine (HC.out run k (.slice (some ad) k c) _ HM2d.out HRv2d.out HFd2.out).mono ?_
              rw [HP.out]
              rintro e w3 ⟨rfl, hb3⟩
              have hbb3 : Below w2.heap.size w2 w3 := (Below.refl w2.heap.size w2).drew.trans hb3
              have HB3 := Lib.hid (HB2.out.trans (hbb3.mono hsz2))
              have HW3 := Lib.hid (HW2.out.trans (hbb3.mono HW2.out.size))
              have hsz3 : wb.heap.size ≤ w3.heap.size := Nat.le_trans hsz2 hbb3.size
              have HX03 := Lib.hid (HX02.out.below hbb3 (Nat.lt_of_lt_of_le hxx0 hsz2))
              have HX13 := Lib.hid (HX12.out.below hbb3 (Nat.lt_of_lt_of_le hxx1 hsz2))
              have HM3 := Lib.hid (HM2.out.now hbb3)
              have HR13 := Lib.hid (HR12.out.now hbb3)
              have HR3 := Lib.hid (HR2.out.now hbb3)
              have HBv3 := Lib.hid (HBv2.out.now hbb3)
              have HRv3 := Lib.hid (HRv2.out.now hbb3)
              clear h0
              have h0 := HS.out _ hbb3
              refine ⟨_, rfl, h0, ?_⟩
              clear hb3 hbb3
              try simp only [Act.put, List.setIfInBounds_toArray, List.set_cons_zero, List.set_cons_succ]
              refine held_run 25 (some 95) (.unOp .not 4 (.tmp 94)) ?v18_135_161 (by rfl) (by kernel_rfl) (by kernel_rfl) (by kernel_rfl) (fun _ _ _ h => h) (fun o ho w hS => ?y18_135_161) (by assumption) ?r18_135_161
              case y18_135_161 => (try dsimp only at hS); unfold execOp; simp only [ho]; go_simp; try with_reducible rfl
              try simp only [Act.put, List.setIfInBounds_toArray, List.set_cons_zero, List.set_cons_succ]
              refine held_run 26 (some 96) (.pick (.tmp 84) (.const (Value.bool true)) (.tmp 95)) ?v18_135_162 (by rfl) (by kernel_rfl) (by kernel_rfl) (by kernel_rfl) (fun _ _ _ h => h) (fun o ho w hS => ?y18_135_162) (by assumption) ?r18_135_162
              case y18_135_162 => (try dsimp only at hS); unfold execOp; simp only [ho]; go_simp; try with_reducible rfl
              try simp only [Act.put, List.setIfInBounds_toArray, List.set_cons_zero, List.set_cons_succ]
              refine held_run 27 (some 69) (.assign (.tmp 96)) ?v18_135_163 (by rfl) (by kernel_rfl) (by kernel_rfl) (by kernel_rfl) (fun _ _ _ h => h) (fun o ho w hS => ?y18_135_163) (by assumption) ?r18_135_163
              case y18_135_163 => (try dsimp only at hS); unfold execOp; simp only [ho]; go_simp; try with_reducible rfl
              try simp only [Act.put, List.setIfInBounds_toArray, List.set_cons_zero, List.set_cons_succ]
              refine wpAnyH_done (by kernel_rfl) ?_ _
              clear hwr
              go_wp2_with fail
              go_roundw
              case rel => exact ⟨k + 1, by omega, by go_num, HGo.out, HB3.out⟩
              case measure => simp [intOf]; omega
end Go.Proofs.Yticoeibccdplaaa
