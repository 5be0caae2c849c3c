/-
  Right, Order, Next, Done and Found of chapter 56, walked.
-/
import Derived.Test.YticoeibccdplaaaSwpE
namespace Go.Proofs.Yticoeibccdplaaa
open Go.RowKit

def lenV : Value → Nat
  | .slice _ n _ => n
  | _ => 0
set_option maxRecDepth 100000 in
set_option maxHeartbeats 4000000 in
theorem right_any (vn vl vr vb v1 v2 : Value) (bg : Int) (rs : List Rn) (bs runs : List Int) (sw : List Sw) (w : World) (hm : StrV Rn.cells 7 w w.heap.size vr rs) (hb : RowV w w.heap.size vb bs) (hr1 : RowV w w.heap.size v1 runs) (hr2 : StrV Sw.cells 4 w w.heap.size v2 sw) :
    Calls Try.prog 13 #[.agg #[vn, vl, vr, vb], .agg #[v1, v2, .int .i64 bg]] w fun e w' => e = .returned (.int .i64 (rightP rs bs runs bg sw)) ∧ Below w.heap.size w w' := by
  obtain ⟨A1, n1, c1, rfl, HL, h11, h12, hr1'⟩ := hr1.nam
  obtain ⟨Ab, nb, cb, rfl, HLb, hb1, hb2, hb'⟩ := hb.nam
  have HRv := Lib.hid hr1
  have HSv := Lib.hid hr2
  have HR := Lib.hid hr1'
  have HB' := Lib.hid hb'
  have HM := Lib.hid hm
  have hn : n1 ≤ maxLen := Nat.le_trans h11 h12
  have hnb : nb ≤ maxLen := Nat.le_trans hb1 hb2
  unfold maxLen at hn
  have HC1 : Hid (∀ (x : Int) (W : World), StrV Rn.cells 7 W W.heap.size vr rs → Calls Try.prog 40 #[.agg #[vn, vl, vr, .slice Ab nb cb], .int .i64 x] W fun e w' => ∃ i1 i2 i3 i4 i5 i6 i7 : Int, e = .returned (.tuple #[.agg #[.int .i64 i1, .int .i64 i2, .int .i64 i3, .int .i64 i4, .int .i64 i5, .int .i64 i6, .int .i64 i7], .bool (hasR rs x)]) ∧ outP rs bs x = bs.contains i4 ∧ Below W.heap.size W w') := fun x W q1 => by
    refine (run_any vn vl vr (.slice Ab nb cb) rs x W q1).mono ?_
    rintro e w' ⟨rfl, h⟩
    exact ⟨_, _, _, _, _, _, _, rfl, rfl, h⟩
  have HC2 : Hid (∀ (x : Int) (W : World), StrV Rn.cells 7 W W.heap.size vr rs → RowV W W.heap.size (.slice A1 n1 c1) runs → Calls Try.prog 42 #[.agg #[vn, vl, vr, .slice Ab nb cb], .agg #[.slice A1 n1 c1, v2, .int .i64 bg], .int .i64 x] W fun e w' => e = .returned (.int .i64 (lowI (befP rs) runs x)) ∧ Below W.heap.size W w') := fun x W q1 q2 => below_any vn vl vr _ _ v2 bg rs runs x W q1 q2
  have HC3 : Hid (n1 ≤ 64 → ∀ (W : World), StrV Rn.cells 7 W W.heap.size vr rs → RowV W W.heap.size (.slice A1 n1 c1) runs → StrV Sw.cells 4 W W.heap.size v2 sw → Calls Try.prog 43 #[.agg #[vn, vl, vr, .slice Ab nb cb], .agg #[.slice A1 n1 c1, v2, .int .i64 bg]] W fun e w' => e = .returned (.int .i64 (errF (chk3 (befP rs) runs bg sw) 0 sw.length)) ∧ Below W.heap.size W w') := fun h W q1 q2 q3 => sweptRight_any vn vl vr _ _ v2 bg rs runs sw W q1 q2 q3 (by rw [HL.out]; exact h)
  have hu : rightP rs bs runs bg sw = if 64 < n1 then 4 else if (if errF (chk1 (hasR rs) runs) 0 n1 ≠ 0 then errF (chk1 (hasR rs) runs) 0 n1 else errF (chk2 (befP rs) (outP rs bs) runs) 0 n1) ≠ 0 then (if errF (chk1 (hasR rs) runs) 0 n1 ≠ 0 then errF (chk1 (hasR rs) runs) 0 n1 else errF (chk2 (befP rs) (outP rs bs) runs) 0 n1) else if bg < 0 ∨ 20000000 < bg then 2 else errF (chk3 (befP rs) runs bg sw) 0 sw.length := by unfold rightP rightG runE; rw [HL.out]
  have HV1 : Hid (∀ k, chk1 (hasR rs) runs k = if hasR rs (runs.getD k 0) = false then 8 else if 0 < k ∧ runs.getD k 0 ≤ runs.getD (k - 1) 0 then 11 else 0) := fun k => rfl
  have HV2 : Hid (∀ k, chk2 (befP rs) (outP rs bs) runs k = if outP rs bs (runs.getD k 0) = false ∧ lowI (befP rs) runs (runs.getD k 0) < 0 then 16 else 0) := fun k => rfl
  generalize errF (chk3 (befP rs) runs bg sw) 0 sw.length = r3 at *
  generalize chk1 (hasR rs) runs = f1 at *
  generalize chk2 (befP rs) (outP rs bs) runs = f2 at *
  generalize lowI (befP rs) runs = low at *
  generalize hasR rs = has at *
  generalize outP rs bs = out at *
  generalize rightP rs bs runs bg sw = r at *
  have H4 : Hid (64 < n1 → r = 4) := fun h => by rw [hu, if_pos h]
  have H1 : Hid (¬ 64 < n1 → errF f1 0 n1 ≠ 0 → r = errF f1 0 n1) := fun h h1 => by rw [hu, if_neg h, if_pos h1, if_pos h1]
  have H2 : Hid (¬ 64 < n1 → errF f1 0 n1 = 0 → errF f2 0 n1 ≠ 0 → r = errF f2 0 n1) := fun h h1 h2 => by rw [hu, if_neg h, if_neg (not_not_intro h1), if_pos h2]
  have H3 : Hid (¬ 64 < n1 → errF f1 0 n1 = 0 → errF f2 0 n1 = 0 → r = if bg < 0 ∨ 20000000 < bg then 2 else r3) := fun h h1 h2 => by rw [hu, if_neg h, if_neg (not_not_intro h1), if_neg (not_not_intro h2)]
  clear hm hb hr1 hr1' hr2 hb' h11 h12 hb1 hb2 hu
  by_cases h64 : 64 < n1
  · have HZ := Lib.hid (H4.out h64)
    go_enter Try.func13, Try.ntmps13
    go_wp2_with fail
    have HBwz0 := (Blk.new w 27 #[vn, vl, vr, .slice Ab nb cb])
    have HLwz0 := (below_new w (.cells #[vn, vl, vr, .slice Ab nb cb] 27))
    have hswz0 : (w.alloc (.cells #[vn, vl, vr, .slice Ab nb cb] 27)).heap.size = w.heap.size + 1 := by simp
    generalize w.alloc (.cells #[vn, vl, vr, .slice Ab nb cb] 27) = wz0 at HBwz0 HLwz0 hswz0 ⊢
    replace HBwz0 := Lib.hid HBwz0
    replace HLwz0 := Lib.hid HLwz0
    have hlwz0 : w.heap.size < wz0.heap.size := by omega
    replace hswz0 := Lib.hid hswz0
    have HBwb := (Blk.new wz0 30 #[.slice A1 n1 c1, v2, .int .i64 bg])
    have HLwb := (below_new wz0 (.cells #[.slice A1 n1 c1, v2, .int .i64 bg] 30))
    have hswb : (wz0.alloc (.cells #[.slice A1 n1 c1, v2, .int .i64 bg] 30)).heap.size = wz0.heap.size + 1 := by simp
    generalize wz0.alloc (.cells #[.slice A1 n1 c1, v2, .int .i64 bg] 30) = wb at HBwb HLwb hswb ⊢
    replace HBwb := Lib.hid HBwb
    replace HLwb := Lib.hid HLwb
    have hlwb : wz0.heap.size < wb.heap.size := by omega
    replace hswb := Lib.hid hswb
    have HQ1 := Lib.hid (HLwz0.out.trans (HLwb.out.mono HLwz0.out.size))
    have HWb := Lib.hid (HQ1.out)
    have hl0 : w.heap.size ≤ wb.heap.size := HWb.out.size
    have HBb : Hid (Below wb.heap.size wb wb) := hide (Below.refl _ _)
    have hszb : wb.heap.size ≤ wb.heap.size := Nat.le_refl _
    have HZ0_1 := Lib.hid (HBwz0.out.below HLwb.out hlwz0)
    have hz0_1 : w.heap.size < wb.heap.size := HZ0_1.out.lt
    have HX0b : Hid (Blk wb w.heap.size 27 #[vn, vl, vr, .slice Ab nb cb]) := hide HZ0_1.out
    have hxx0 : w.heap.size < wb.heap.size := HX0b.out.lt
    have HX1b : Hid (Blk wb (w.heap.size + 1) 30 #[.slice A1 n1 c1, v2, .int .i64 bg]) := hide (by have h := HBwb.out; rw [show wz0.heap.size = w.heap.size + 1 from by have := hswz0.out; omega] at h; exact h)
    have hxx1 : (w.heap.size + 1) < wb.heap.size := HX1b.out.lt
    clear HBwz0 HLwz0 hswz0 hlwz0
    clear HBwb HLwb hswb hlwb
    go_ret
    exact ⟨ret_i HZ.out.symm, HWb.out⟩
  go_enter Try.func13, Try.ntmps13
  go_wp2_with fail
  have HBwz0 := (Blk.new w 27 #[vn, vl, vr, .slice Ab nb cb])
  have HLwz0 := (below_new w (.cells #[vn, vl, vr, .slice Ab nb cb] 27))
  have hswz0 : (w.alloc (.cells #[vn, vl, vr, .slice Ab nb cb] 27)).heap.size = w.heap.size + 1 := by simp
  generalize w.alloc (.cells #[vn, vl, vr, .slice Ab nb cb] 27) = wz0 at HBwz0 HLwz0 hswz0 ⊢
  replace HBwz0 := Lib.hid HBwz0
  replace HLwz0 := Lib.hid HLwz0
  have hlwz0 : w.heap.size < wz0.heap.size := by omega
  replace hswz0 := Lib.hid hswz0
  have HBwb := (Blk.new wz0 30 #[.slice A1 n1 c1, v2, .int .i64 bg])
  have HLwb := (below_new wz0 (.cells #[.slice A1 n1 c1, v2, .int .i64 bg] 30))
  have hswb : (wz0.alloc (.cells #[.slice A1 n1 c1, v2, .int .i64 bg] 30)).heap.size = wz0.heap.size + 1 := by simp
  generalize wz0.alloc (.cells #[.slice A1 n1 c1, v2, .int .i64 bg] 30) = wb at HBwb HLwb hswb ⊢
  replace HBwb := Lib.hid HBwb
  replace HLwb := Lib.hid HLwb
  have hlwb : wz0.heap.size < wb.heap.size := by omega
  replace hswb := Lib.hid hswb
  have HQ1 := Lib.hid (HLwz0.out.trans (HLwb.out.mono HLwz0.out.size))
  have HWb := Lib.hid (HQ1.out)
  have hl0 : w.heap.size ≤ wb.heap.size := HWb.out.size
  have HBb : Hid (Below wb.heap.size wb wb) := hide (Below.refl _ _)
  have hszb : wb.heap.size ≤ wb.heap.size := Nat.le_refl _
  have HZ0_1 := Lib.hid (HBwz0.out.below HLwb.out hlwz0)
  have hz0_1 : w.heap.size < wb.heap.size := HZ0_1.out.lt
  have HX0b : Hid (Blk wb w.heap.size 27 #[vn, vl, vr, .slice Ab nb cb]) := hide HZ0_1.out
  have hxx0 : w.heap.size < wb.heap.size := HX0b.out.lt
  have HX1b : Hid (Blk wb (w.heap.size + 1) 30 #[.slice A1 n1 c1, v2, .int .i64 bg]) := hide (by have h := HBwb.out; rw [show wz0.heap.size = w.heap.size + 1 from by have := hswz0.out; omega] at h; exact h)
  have hxx1 : (w.heap.size + 1) < wb.heap.size := HX1b.out.lt
  clear HBwz0 HLwz0 hswz0 hlwz0
  clear HBwb HLwb hswb hlwb
  have HMb := Lib.hid (HM.out.now HWb.out)
  have HRb := Lib.hid (HR.out.now HWb.out)
  have HBsb := Lib.hid (HB'.out.now HWb.out)
  have HRvb := Lib.hid (HRv.out.now HWb.out)
  have HSvb := Lib.hid (HSv.out.now HWb.out)
  go_loopw [20] (fun i wr => ∃ k : Nat, k ≤ n1 ∧ i = .int .i64 k ∧ errF f1 0 n1 = errF f1 k (n1 - k) ∧ Below wb.heap.size wb wr) (fun i _ => n1 - (intOf i).toNat)
  case atStart => exact ⟨0, by omega, rfl, rfl, Below.refl _ _⟩
  case round =>
    obtain ⟨k, hk, rfl, hF, hbr⟩ := hrel
    have HF := Lib.hid hF
    clear hF
    obtain ⟨wo, rfl⟩ : ∃ wo : World, wo = wr := ⟨_, rfl⟩
    have HBo := Lib.hid (HBb.out.trans (hbr.mono hszb))
    have HWo := Lib.hid (HWb.out.trans (hbr.mono HWb.out.size))
    have hszo : wb.heap.size ≤ wo.heap.size := Nat.le_trans hszb hbr.size
    have HX0o := Lib.hid (HX0b.out.below hbr (Nat.lt_of_lt_of_le hxx0 hszb))
    have HX1o := Lib.hid (HX1b.out.below hbr (Nat.lt_of_lt_of_le hxx1 hszb))
    have HMo := Lib.hid (HMb.out.now hbr)
    have HRo := Lib.hid (HRb.out.now hbr)
    have HBso := Lib.hid (HBsb.out.now hbr)
    have HRvo := Lib.hid (HRvb.out.now hbr)
    have HSvo := Lib.hid (HSvb.out.now hbr)
    clear hbr
    by_cases hlt : k < n1
    · obtain ⟨ad, rfl, hab, hc⟩ := HRo.out.int hlt
      have HVk := Lib.hid (HV1.out k)
      have HYes : Hid (f1 k ≠ 0 → r = f1 k) := fun h => by
        have e := HF.out.trans (errF_yes hlt h)
        exact (H1.out h64 (by rw [e]; exact h)).trans e
      have HNo : Hid (f1 k = 0 → errF f1 0 n1 = errF f1 (k + 1) (n1 - (k + 1))) := fun h => HF.out.trans (errF_no hlt h)
      have HPrev : Hid (∀ k', k = k' + 1 → wo.cell? (ad.add k') = some (.int .i64 (runs.getD k' 0))) := fun k' hk' => by
        obtain ⟨ad', had, _, hcs'⟩ := HRo.out.int (show k' < n1 by omega)
        injection had with had
        subst had
        exact hcs'
      generalize runs.getD k 0 = x at *
      obtain ⟨hx, hhx⟩ : ∃ b, has x = b := ⟨_, rfl⟩
      have HCx := Lib.hid (HC1.out x)
      rw [hhx] at HCx HVk
      clear hhx
      go_wp2_with
        (first
         | (refine wpList_load_g 27 (.tmp 2) rfl rfl w.heap.size rfl _ _ HX0o.out _ Try.underlying27 rfl (by kernel_rfl) ?_))
      with_reducible refine (HCx.out _ HMo.out).mono ?_
      rintro e w1 ⟨i1, i2, i3, i4, i5, i6, i7, rfl, _, hb1⟩
      have HWr := Lib.hid hb1
      have HB1 := Lib.hid (HBo.out.trans (hb1.mono hszo))
      have HW1 := Lib.hid (HWo.out.trans (hb1.mono HWo.out.size))
      have hsz1 : wb.heap.size ≤ w1.heap.size := Nat.le_trans hszo hb1.size
      have HX01 := Lib.hid (HX0o.out.below hb1 (Nat.lt_of_lt_of_le hxx0 hszo))
      have HX11 := Lib.hid (HX1o.out.below hb1 (Nat.lt_of_lt_of_le hxx1 hszo))
      have HM1 := Lib.hid (HMo.out.now hb1)
      have HR1 := Lib.hid (HRo.out.now hb1)
      have HBs1 := Lib.hid (HBso.out.now hb1)
      have HRv1 := Lib.hid (HRvo.out.now hb1)
      have HSv1 := Lib.hid (HSvo.out.now hb1)
      clear hb1
      cases hx with
      | false =>
        have HZ : Hid (r = 8) := hide (by have h : f1 k = 8 := HVk.out; rw [HYes.out (by rw [h]; decide), h])
        go_wp2_with
          (first
           | (refine wpList_store_blk rfl 60 (.tmp 7) (.tmp 29) rfl w1.heap.size #[.int .i64 i1, .int .i64 i2, .int .i64 i3, .int .i64 i4, .int .i64 i5, .int .i64 i6, .int .i64 i7] rfl rfl _ _ (Blk.new w1 60 #[.int .i64 0, .int .i64 0, .int .i64 0, .int .i64 0, .int .i64 0, .int .i64 0, .int .i64 0]) (by kernel_rfl) rfl (by simp [Value.oneCell']) ?_
              intro w2 hx2 hon2
              have hb2 := hon2.below (below_new w1 (.cells #[.int .i64 0, .int .i64 0, .int .i64 0, .int .i64 0, .int .i64 0, .int .i64 0, .int .i64 0] 60)) (Nat.le_refl _)
              have HB2 := Lib.hid (HB1.out.trans (hb2.mono hsz1))
              have HW2 := Lib.hid (HW1.out.trans (hb2.mono HW1.out.size))
              have hsz2 : wb.heap.size ≤ w2.heap.size := Nat.le_trans hsz1 hb2.size
              have HX02 := Lib.hid (HX01.out.below hb2 (Nat.lt_of_lt_of_le hxx0 hsz1))
              have HX12 := Lib.hid (HX11.out.below hb2 (Nat.lt_of_lt_of_le hxx1 hsz1))
              have HM2 := Lib.hid (HM1.out.now hb2)
              have HR2 := Lib.hid (HR1.out.now hb2)
              have HBs2 := Lib.hid (HBs1.out.now hb2)
              have HRv2 := Lib.hid (HRv1.out.now hb2)
              have HSv2 := Lib.hid (HSv1.out.now hb2)
              have HWq := Lib.hid hb2
              clear hx2 hon2 hb2))
        go_ret
        exact ⟨ret_i HZ.out.symm, HW2.out⟩
      | true =>
        rcases Nat.eq_zero_or_pos k with hk0 | hk0
        · subst hk0
          have HGo := Lib.hid (HNo.out (by rw [HVk.out, if_neg (by simp), if_neg (fun h => absurd h.1 (by omega))]))
          go_wp2_with
            (first
             | (refine wpList_store_blk rfl 60 (.tmp 7) (.tmp 29) rfl w1.heap.size #[.int .i64 i1, .int .i64 i2, .int .i64 i3, .int .i64 i4, .int .i64 i5, .int .i64 i6, .int .i64 i7] rfl rfl _ _ (Blk.new w1 60 #[.int .i64 0, .int .i64 0, .int .i64 0, .int .i64 0, .int .i64 0, .int .i64 0, .int .i64 0]) (by kernel_rfl) rfl (by simp [Value.oneCell']) ?_
                intro w2 hx2 hon2
                have hb2 := hon2.below (below_new w1 (.cells #[.int .i64 0, .int .i64 0, .int .i64 0, .int .i64 0, .int .i64 0, .int .i64 0, .int .i64 0] 60)) (Nat.le_refl _)
                have HB2 := Lib.hid (HB1.out.trans (hb2.mono hsz1))
                have HW2 := Lib.hid (HW1.out.trans (hb2.mono HW1.out.size))
                have hsz2 : wb.heap.size ≤ w2.heap.size := Nat.le_trans hsz1 hb2.size
                have HX02 := Lib.hid (HX01.out.below hb2 (Nat.lt_of_lt_of_le hxx0 hsz1))
                have HX12 := Lib.hid (HX11.out.below hb2 (Nat.lt_of_lt_of_le hxx1 hsz1))
                have HM2 := Lib.hid (HM1.out.now hb2)
                have HR2 := Lib.hid (HR1.out.now hb2)
                have HBs2 := Lib.hid (HBs1.out.now hb2)
                have HRv2 := Lib.hid (HRv1.out.now hb2)
                have HSv2 := Lib.hid (HSv1.out.now hb2)
                have HWq := Lib.hid hb2
                clear hx2 hon2 hb2))
          go_roundw
          case rel => exact ⟨1, by omega, by go_num, HGo.out, HB2.out⟩
          case measure => simp [intOf]; omega
        · obtain ⟨k', hk'⟩ : ∃ k', k = k' + 1 := ⟨k - 1, by omega⟩
          have hcp0 := HPrev.out k' hk'
          have hkm : k - 1 = k' := by omega
          rw [hkm] at HVk
          clear hkm
          generalize runs.getD k' 0 = p at *
          have HPc := Lib.hid hcp0
          clear hcp0
          have hj : (k : Int) - 1 = (k' : Int) := by omega
          have hkn : k' < n1 := by omega
          have dk : decide (0 < k) = true := decide_eq_true hk0
          clear hk'
          by_cases h3 : x ≤ p
          · have HZ : Hid (r = 11) := hide (by have h : f1 k = 11 := (by rw [HVk.out, if_neg (by simp), if_pos ⟨hk0, h3⟩]); rw [HYes.out (by rw [h]; decide), h])
            go_wp2_with
              (first
               | (refine wpList_store_blk rfl 60 (.tmp 7) (.tmp 29) rfl w1.heap.size #[.int .i64 i1, .int .i64 i2, .int .i64 i3, .int .i64 i4, .int .i64 i5, .int .i64 i6, .int .i64 i7] rfl rfl _ _ (Blk.new w1 60 #[.int .i64 0, .int .i64 0, .int .i64 0, .int .i64 0, .int .i64 0, .int .i64 0, .int .i64 0]) (by kernel_rfl) rfl (by simp [Value.oneCell']) ?_
                  intro w2 hx2 hon2
                  have hb2 := hon2.below (below_new w1 (.cells #[.int .i64 0, .int .i64 0, .int .i64 0, .int .i64 0, .int .i64 0, .int .i64 0, .int .i64 0] 60)) (Nat.le_refl _)
                  have HB2 := Lib.hid (HB1.out.trans (hb2.mono hsz1))
                  have HW2 := Lib.hid (HW1.out.trans (hb2.mono HW1.out.size))
                  have hsz2 : wb.heap.size ≤ w2.heap.size := Nat.le_trans hsz1 hb2.size
                  have HX02 := Lib.hid (HX01.out.below hb2 (Nat.lt_of_lt_of_le hxx0 hsz1))
                  have HX12 := Lib.hid (HX11.out.below hb2 (Nat.lt_of_lt_of_le hxx1 hsz1))
                  have HM2 := Lib.hid (HM1.out.now hb2)
                  have HR2 := Lib.hid (HR1.out.now hb2)
                  have HBs2 := Lib.hid (HBs1.out.now hb2)
                  have HRv2 := Lib.hid (HRv1.out.now hb2)
                  have HSv2 := Lib.hid (HSv1.out.now hb2)
                  have HWq := Lib.hid hb2
                  have s0 : w2.cell? ⟨w.heap.size + 1, 0, none⟩ = some (.slice (some ad) n1 c1) := HX12.out.cell 0
                  have s1 : w2.cell? ⟨w.heap.size + 1, 1, none⟩ = some (v2) := HX12.out.cell 1
                  have s2 : w2.cell? ⟨w.heap.size + 1, 2, none⟩ = some (.int .i64 bg) := HX12.out.cell 2
                  have cp : w2.cell? (ad.add k') = some (.int .i64 p) := (HWq.out.cell (by rw [block_of_add]; exact Nat.lt_of_lt_of_le hab HWr.out.size)).trans ((HWr.out.cell (by rw [block_of_add]; exact hab)).trans HPc.out)
                  clear hx2 hon2 hb2))
            go_ret
            exact ⟨ret_i HZ.out.symm, HW2.out⟩
          · have HGo := Lib.hid (HNo.out (by rw [HVk.out, if_neg (by simp), if_neg (fun h => h3 h.2)]))
            have d3 : decide (x ≤ p) = false := decide_eq_false h3
            go_wp2_with
              (first
               | (refine wpList_store_blk rfl 60 (.tmp 7) (.tmp 29) rfl w1.heap.size #[.int .i64 i1, .int .i64 i2, .int .i64 i3, .int .i64 i4, .int .i64 i5, .int .i64 i6, .int .i64 i7] rfl rfl _ _ (Blk.new w1 60 #[.int .i64 0, .int .i64 0, .int .i64 0, .int .i64 0, .int .i64 0, .int .i64 0, .int .i64 0]) (by kernel_rfl) rfl (by simp [Value.oneCell']) ?_
                  intro w2 hx2 hon2
                  have hb2 := hon2.below (below_new w1 (.cells #[.int .i64 0, .int .i64 0, .int .i64 0, .int .i64 0, .int .i64 0, .int .i64 0, .int .i64 0] 60)) (Nat.le_refl _)
                  have HB2 := Lib.hid (HB1.out.trans (hb2.mono hsz1))
                  have HW2 := Lib.hid (HW1.out.trans (hb2.mono HW1.out.size))
                  have hsz2 : wb.heap.size ≤ w2.heap.size := Nat.le_trans hsz1 hb2.size
                  have HX02 := Lib.hid (HX01.out.below hb2 (Nat.lt_of_lt_of_le hxx0 hsz1))
                  have HX12 := Lib.hid (HX11.out.below hb2 (Nat.lt_of_lt_of_le hxx1 hsz1))
                  have HM2 := Lib.hid (HM1.out.now hb2)
                  have HR2 := Lib.hid (HR1.out.now hb2)
                  have HBs2 := Lib.hid (HBs1.out.now hb2)
                  have HRv2 := Lib.hid (HRv1.out.now hb2)
                  have HSv2 := Lib.hid (HSv1.out.now hb2)
                  have HWq := Lib.hid hb2
                  have s0 : w2.cell? ⟨w.heap.size + 1, 0, none⟩ = some (.slice (some ad) n1 c1) := HX12.out.cell 0
                  have s1 : w2.cell? ⟨w.heap.size + 1, 1, none⟩ = some (v2) := HX12.out.cell 1
                  have s2 : w2.cell? ⟨w.heap.size + 1, 2, none⟩ = some (.int .i64 bg) := HX12.out.cell 2
                  have cp : w2.cell? (ad.add k') = some (.int .i64 p) := (HWq.out.cell (by rw [block_of_add]; exact Nat.lt_of_lt_of_le hab HWr.out.size)).trans ((HWr.out.cell (by rw [block_of_add]; exact hab)).trans HPc.out)
                  clear hx2 hon2 hb2))
            go_roundw
            case rel => exact ⟨k + 1, by omega, by go_num, HGo.out, HB2.out⟩
            case measure => simp [intOf]; omega
    · obtain rfl : k = n1 := by omega
      have s0 : wo.cell? ⟨w.heap.size + 1, 0, none⟩ = some (.slice A1 k c1) := HX1o.out.cell 0
      have s1 : wo.cell? ⟨w.heap.size + 1, 1, none⟩ = some (v2) := HX1o.out.cell 1
      have s2 : wo.cell? ⟨w.heap.size + 1, 2, none⟩ = some (.int .i64 bg) := HX1o.out.cell 2
      have HF1 : Hid (errF f1 0 k = 0) := by have h := HF.out; rw [Nat.sub_self] at h; exact hide h
      clear HF
      go_wp2_with fail
      clear s0 s1 s2
      go_loopw [49] (fun i wr => ∃ m : Nat, m ≤ k ∧ i = .int .i64 m ∧ errF f2 0 k = errF f2 m (k - m) ∧ Below wb.heap.size wb wr) (fun i _ => k - (intOf i).toNat)
      case atStart => exact ⟨0, by omega, rfl, rfl, HBo.out⟩
      case round =>
        obtain ⟨m, hm, rfl, hF, hbr⟩ := hrel
        have HF := Lib.hid hF
        clear hF HBo HWo HX0o HX1o HMo HRo HBso HRvo HSvo hszo
        obtain ⟨wo, rfl⟩ : ∃ wo : World, wo = wr := ⟨_, rfl⟩
        have HBo := Lib.hid (HBb.out.trans (hbr.mono hszb))
        have HWo := Lib.hid (HWb.out.trans (hbr.mono HWb.out.size))
        have hszo : wb.heap.size ≤ wo.heap.size := Nat.le_trans hszb hbr.size
        have HX0o := Lib.hid (HX0b.out.below hbr (Nat.lt_of_lt_of_le hxx0 hszb))
        have HX1o := Lib.hid (HX1b.out.below hbr (Nat.lt_of_lt_of_le hxx1 hszb))
        have HMo := Lib.hid (HMb.out.now hbr)
        have HRo := Lib.hid (HRb.out.now hbr)
        have HBso := Lib.hid (HBsb.out.now hbr)
        have HRvo := Lib.hid (HRvb.out.now hbr)
        have HSvo := Lib.hid (HSvb.out.now hbr)
        clear hbr
        by_cases hlt2 : m < k
        · obtain ⟨ad, rfl, hab, hc⟩ := HRo.out.int hlt2
          have HVk := Lib.hid (HV2.out m)
          have HYes : Hid (f2 m ≠ 0 → r = f2 m) := fun h => by
            have e := HF.out.trans (errF_yes hlt2 h)
            exact (H2.out h64 HF1.out (by rw [e]; exact h)).trans e
          have HNo : Hid (f2 m = 0 → errF f2 0 k = errF f2 (m + 1) (k - (m + 1))) := fun h => HF.out.trans (errF_no hlt2 h)
          generalize runs.getD m 0 = x at *
          have HCx := Lib.hid (HC1.out x)
          go_wp2_with
            (first
             | (refine wpList_load_g 27 (.tmp 2) rfl rfl w.heap.size rfl _ _ HX0o.out _ Try.underlying27 rfl (by kernel_rfl) ?_))
          with_reducible refine (HCx.out _ HMo.out).mono ?_
          rintro e w1 ⟨i1, i2, i3, i4, i5, i6, i7, rfl, hi4, hb1⟩
          have HB1 := Lib.hid (HBo.out.trans (hb1.mono hszo))
          have HW1 := Lib.hid (HWo.out.trans (hb1.mono HWo.out.size))
          have hsz1 : wb.heap.size ≤ w1.heap.size := Nat.le_trans hszo hb1.size
          have HX01 := Lib.hid (HX0o.out.below hb1 (Nat.lt_of_lt_of_le hxx0 hszo))
          have HX11 := Lib.hid (HX1o.out.below hb1 (Nat.lt_of_lt_of_le hxx1 hszo))
          have HM1 := Lib.hid (HMo.out.now hb1)
          have HR1 := Lib.hid (HRo.out.now hb1)
          have HBs1 := Lib.hid (HBso.out.now hb1)
          have HRv1 := Lib.hid (HRvo.out.now hb1)
          have HSv1 := Lib.hid (HSvo.out.now hb1)
          clear hb1
          have HI4 := Lib.hid hi4
          clear hi4
          cases hq : bs.contains i4 with
          | true =>
            have HGo := Lib.hid (HNo.out (by rw [HVk.out, HI4.out, hq, if_neg (fun h => by cases h.1)]))
            go_wp2_with
              (first
               | (refine wpList_store_blk rfl 60 (.tmp 11) (.tmp 57) rfl w1.heap.size #[.int .i64 i1, .int .i64 i2, .int .i64 i3, .int .i64 i4, .int .i64 i5, .int .i64 i6, .int .i64 i7] rfl rfl _ _ (Blk.new w1 60 #[.int .i64 0, .int .i64 0, .int .i64 0, .int .i64 0, .int .i64 0, .int .i64 0, .int .i64 0]) (by kernel_rfl) rfl (by simp [Value.oneCell']) ?_
                  intro w2 hx2 hon2
                  have hb2 := hon2.below (below_new w1 (.cells #[.int .i64 0, .int .i64 0, .int .i64 0, .int .i64 0, .int .i64 0, .int .i64 0, .int .i64 0] 60)) (Nat.le_refl _)
                  have HB2 := Lib.hid (HB1.out.trans (hb2.mono hsz1))
                  have HW2 := Lib.hid (HW1.out.trans (hb2.mono HW1.out.size))
                  have hsz2 : wb.heap.size ≤ w2.heap.size := Nat.le_trans hsz1 hb2.size
                  have HX02 := Lib.hid (HX01.out.below hb2 (Nat.lt_of_lt_of_le hxx0 hsz1))
                  have HX12 := Lib.hid (HX11.out.below hb2 (Nat.lt_of_lt_of_le hxx1 hsz1))
                  have HM2 := Lib.hid (HM1.out.now hb2)
                  have HR2 := Lib.hid (HR1.out.now hb2)
                  have HBs2 := Lib.hid (HBs1.out.now hb2)
                  have HRv2 := Lib.hid (HRv1.out.now hb2)
                  have HSv2 := Lib.hid (HSv1.out.now hb2)
                  have e3 : w2.cell? ⟨w1.heap.size, 3, none⟩ = some (.int .i64 i4) := hx2.cell 3
                  have m3 : w2.cell? ⟨w.heap.size, 3, none⟩ = some (.slice Ab nb cb) := HX02.out.cell 3
                  clear hx2 hon2 hb2))
            with_reducible refine (contains_any _ nb cb _ bs i4 true _ HBs2.out hnb hq).mono ?_
            rintro e w' ⟨rfl, rfl⟩
            go_wp2_with fail
            go_roundw
            case rel => exact ⟨m + 1, by omega, by go_num, HGo.out, HB2.out⟩
            case measure => simp [intOf]; omega
          | false =>
            go_wp2_with
              (first
               | (refine wpList_store_blk rfl 60 (.tmp 11) (.tmp 57) rfl w1.heap.size #[.int .i64 i1, .int .i64 i2, .int .i64 i3, .int .i64 i4, .int .i64 i5, .int .i64 i6, .int .i64 i7] rfl rfl _ _ (Blk.new w1 60 #[.int .i64 0, .int .i64 0, .int .i64 0, .int .i64 0, .int .i64 0, .int .i64 0, .int .i64 0]) (by kernel_rfl) rfl (by simp [Value.oneCell']) ?_
                  intro w2 hx2 hon2
                  have hb2 := hon2.below (below_new w1 (.cells #[.int .i64 0, .int .i64 0, .int .i64 0, .int .i64 0, .int .i64 0, .int .i64 0, .int .i64 0] 60)) (Nat.le_refl _)
                  have HB2 := Lib.hid (HB1.out.trans (hb2.mono hsz1))
                  have HW2 := Lib.hid (HW1.out.trans (hb2.mono HW1.out.size))
                  have hsz2 : wb.heap.size ≤ w2.heap.size := Nat.le_trans hsz1 hb2.size
                  have HX02 := Lib.hid (HX01.out.below hb2 (Nat.lt_of_lt_of_le hxx0 hsz1))
                  have HX12 := Lib.hid (HX11.out.below hb2 (Nat.lt_of_lt_of_le hxx1 hsz1))
                  have HM2 := Lib.hid (HM1.out.now hb2)
                  have HR2 := Lib.hid (HR1.out.now hb2)
                  have HBs2 := Lib.hid (HBs1.out.now hb2)
                  have HRv2 := Lib.hid (HRv1.out.now hb2)
                  have HSv2 := Lib.hid (HSv1.out.now hb2)
                  have e3 : w2.cell? ⟨w1.heap.size, 3, none⟩ = some (.int .i64 i4) := hx2.cell 3
                  have m3 : w2.cell? ⟨w.heap.size, 3, none⟩ = some (.slice Ab nb cb) := HX02.out.cell 3
                  clear hx2 hon2 hb2))
            with_reducible refine (contains_any _ nb cb _ bs i4 false _ HBs2.out hnb hq).mono ?_
            rintro e w' ⟨rfl, rfl⟩
            go_wp2_with
              (first
               | (refine wpList_load_g 27 (.tmp 2) rfl rfl w.heap.size rfl _ _ HX02.out _ Try.underlying27 rfl (by kernel_rfl) ?_)
               | (refine wpList_load_g 30 (.tmp 3) rfl rfl (w.heap.size + 1) rfl _ _ HX12.out _ Try.underlying30 rfl (by kernel_rfl) ?_))
            with_reducible refine (HC2.out x _ HM2.out HRv2.out).mono ?_
            rintro e w3 ⟨rfl, hb3⟩
            have HB3 := Lib.hid (HB2.out.trans (hb3.mono hsz2))
            have HW3 := Lib.hid (HW2.out.trans (hb3.mono HW2.out.size))
            have hsz3 : wb.heap.size ≤ w3.heap.size := Nat.le_trans hsz2 hb3.size
            have HX03 := Lib.hid (HX02.out.below hb3 (Nat.lt_of_lt_of_le hxx0 hsz2))
            have HX13 := Lib.hid (HX12.out.below hb3 (Nat.lt_of_lt_of_le hxx1 hsz2))
            have HM3 := Lib.hid (HM2.out.now hb3)
            have HR3 := Lib.hid (HR2.out.now hb3)
            have HBs3 := Lib.hid (HBs2.out.now hb3)
            have HRv3 := Lib.hid (HRv2.out.now hb3)
            have HSv3 := Lib.hid (HSv2.out.now hb3)
            clear hb3
            by_cases hlo : low x < 0
            · have HZ : Hid (r = 16) := hide (by have h : f2 m = 16 := (by rw [HVk.out, if_pos ⟨by rw [HI4.out]; exact hq, hlo⟩]); rw [HYes.out (by rw [h]; decide), h])
              go_wp2_with fail
              go_ret
              exact ⟨ret_i HZ.out.symm, HW3.out⟩
            · have HGo := Lib.hid (HNo.out (by rw [HVk.out, if_neg (fun h => hlo h.2)]))
              go_wp2_with fail
              go_roundw
              case rel => exact ⟨m + 1, by omega, by go_num, HGo.out, HB3.out⟩
              case measure => simp [intOf]; omega
        · obtain rfl : m = k := by omega
          have HF2 : Hid (errF f2 0 m = 0) := by have h := HF.out; rw [Nat.sub_self] at h; exact hide h
          have HE := Lib.hid (H3.out h64 HF1.out HF2.out)
          have s0 : wo.cell? ⟨w.heap.size + 1, 0, none⟩ = some (.slice A1 m c1) := HX1o.out.cell 0
          have s1 : wo.cell? ⟨w.heap.size + 1, 1, none⟩ = some (v2) := HX1o.out.cell 1
          have s2 : wo.cell? ⟨w.heap.size + 1, 2, none⟩ = some (.int .i64 bg) := HX1o.out.cell 2
          by_cases g0 : bg < 0
          · have HZ : Hid (r = 2) := hide (HE.out.trans (if_pos (by omega)))
            go_wp2_with fail
            go_ret
            exact ⟨ret_i HZ.out.symm, HWo.out⟩
          have d0 : decide (bg < 0) = false := decide_eq_false g0
          by_cases g1 : 20000000 < bg
          · have HZ : Hid (r = 2) := hide (HE.out.trans (if_pos (by omega)))
            go_wp2_with fail
            go_ret
            exact ⟨ret_i HZ.out.symm, HWo.out⟩
          have d1 : decide (20000000 < bg) = false := decide_eq_false g1
          have HZ : Hid (r = r3) := hide (HE.out.trans (if_neg (by omega)))
          go_wp2_with
            (first
             | (refine wpList_load_g 27 (.tmp 2) rfl rfl w.heap.size rfl _ _ HX0o.out _ Try.underlying27 rfl (by kernel_rfl) ?_)
             | (refine wpList_load_g 30 (.tmp 3) rfl rfl (w.heap.size + 1) rfl _ _ HX1o.out _ Try.underlying30 rfl (by kernel_rfl) ?_))
          with_reducible refine (HC3.out (by omega) _ HMo.out HRvo.out HSvo.out).mono ?_
          rintro e w4 ⟨rfl, hb4⟩
          have HB4 := Lib.hid (HBo.out.trans (hb4.mono hszo))
          have HW4 := Lib.hid (HWo.out.trans (hb4.mono HWo.out.size))
          have hsz4 : wb.heap.size ≤ w4.heap.size := Nat.le_trans hszo hb4.size
          have HX04 := Lib.hid (HX0o.out.below hb4 (Nat.lt_of_lt_of_le hxx0 hszo))
          have HX14 := Lib.hid (HX1o.out.below hb4 (Nat.lt_of_lt_of_le hxx1 hszo))
          have HM4 := Lib.hid (HMo.out.now hb4)
          have HR4 := Lib.hid (HRo.out.now hb4)
          have HBs4 := Lib.hid (HBso.out.now hb4)
          have HRv4 := Lib.hid (HRvo.out.now hb4)
          have HSv4 := Lib.hid (HSvo.out.now hb4)
          clear hb4
          go_wp2_with fail
          go_ret
          exact ⟨ret_i HZ.out.symm, HW4.out⟩
end Go.Proofs.Yticoeibccdplaaa
