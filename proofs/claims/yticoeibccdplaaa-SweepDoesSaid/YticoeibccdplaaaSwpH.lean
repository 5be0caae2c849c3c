/-
  The reference's check of the runs of a sweep, of chapter 56, walked.
-/
import Derived.Test.YticoeibccdplaaaSwpG
import Derived.Test.YticoeibccdplaaaRegC
namespace Go.Proofs.Yticoeibccdplaaa
open Go.RowKit

set_option maxRecDepth 100000 in
set_option maxHeartbeats 4000000 in
theorem rin_any (x lo hi : Int) (b : Bool) (w : World) (hb : (decide (lo ≤ x) && decide (x ≤ hi)) = b) : Calls Try.prog 45 #[.int .i64 x, .int .i64 lo, .int .i64 hi] w fun e w' => e = .returned (.bool b) ∧ w = w' := by
  subst hb
  go_enter Try.func45, Try.ntmps45
  by_cases h : lo ≤ x
  · go_wp2
    go_ret
    exact ⟨ret_b (by simp [h]), rfl⟩
  · have hd : decide (lo ≤ x) = false := by simpa using h
    go_wp2
    go_ret
    exact ⟨rfl, rfl⟩

set_option maxRecDepth 100000 in
set_option maxHeartbeats 4000000 in
theorem rruns_any (vn vl vr vb v1 : Value) (rs : List Rn) (bs runs : List Int) (w : World) (hm : StrV Rn.cells 7 w w.heap.size vr rs) (hb : RowV w w.heap.size vb bs) (hr1 : RowV w w.heap.size v1 runs) :
    Calls Try.prog 44 #[.agg #[vn, vl, vr, vb], v1] w fun e w' => e = .returned (.int .i64 (runE (hasR rs) (befR rs) (outR rs bs) runs)) ∧ Below w.heap.size w w' := by
  obtain ⟨A1, n1, c1, rfl, HL, h11, h12, hr1'⟩ := hr1.nam
  have HRv := Lib.hid hr1
  have HR := Lib.hid hr1'
  have HBv := Lib.hid hb
  have HM := Lib.hid hm
  have hn : n1 ≤ maxLen := Nat.le_trans h11 h12
  unfold maxLen at hn
  have HC1 : Hid (∀ (x : Int) (b : Bool) (W : World), StrV Rn.cells 7 W W.heap.size vr rs → hasR rs x = b → Calls Try.prog 59 #[.agg #[vn, vl, vr, vb], .int .i64 x] W fun e w' => ∃ i1 i2 i3 i4 i5 i6 i7 : Int, e = .returned (.tuple #[.agg #[.int .i64 i1, .int .i64 i2, .int .i64 i3, .int .i64 i4, .int .i64 i5, .int .i64 i6, .int .i64 i7], .bool b]) ∧ Below W.heap.size W w') := fun x b W q1 q2 => by
    refine (rrun_any vn vl vr vb rs x W q1).mono ?_
    rintro e w' ⟨rfl, h⟩
    exact ⟨_, _, _, _, _, _, _, by rw [q2], h⟩
  have HC2 : Hid (∀ (x : Int) (b : Bool) (W : World), StrV Rn.cells 7 W W.heap.size vr rs → RowV W W.heap.size vb bs → outR rs bs x = b → Calls Try.prog 68 #[.agg #[vn, vl, vr, vb], .int .i64 x] W fun e w' => e = .returned (.bool b) ∧ Below W.heap.size W w') := fun x b W q1 q2 q3 => by
    have h := rout_any vn vl vr vb rs bs x W q1 q2
    rwa [q3] at h
  have HC3 : Hid (∀ (x r : Int) (W : World), StrV Rn.cells 7 W W.heap.size vr rs → RowV W W.heap.size (.slice A1 n1 c1) runs → lowI (befR rs) runs x = r → Calls Try.prog 69 #[.agg #[vn, vl, vr, vb], .slice A1 n1 c1, .int .i64 x] W fun e w' => e = .returned (.int .i64 r) ∧ Below W.heap.size W w') := fun x r W q1 q2 q3 => by
    have h := rleast_any vn vl vr vb (.slice A1 n1 c1) rs runs x W q1 q2
    rwa [q3] at h
  have hu : runE (hasR rs) (befR rs) (outR rs bs) runs = if errF (chk1 (hasR rs) runs) 0 n1 ≠ 0 then errF (chk1 (hasR rs) runs) 0 n1 else errF (chk2 (befR rs) (outR rs bs) runs) 0 n1 := by unfold runE; rw [HL.out]
  have HV1 : Hid (∀ k, chk1 (hasR rs) runs k = if hasR rs (runs.getD k 0) = false then 8 else if 0 < k ∧ runs.getD k 0 ≤ runs.getD (k - 1) 0 then 11 else 0) := fun k => rfl
  have HV2 : Hid (∀ k, chk2 (befR rs) (outR rs bs) runs k = if outR rs bs (runs.getD k 0) = false ∧ lowI (befR rs) runs (runs.getD k 0) < 0 then 16 else 0) := fun k => rfl
  generalize runE (hasR rs) (befR rs) (outR rs bs) runs = r at *
  generalize chk1 (hasR rs) runs = f1 at *
  generalize chk2 (befR rs) (outR rs bs) runs = f2 at *
  generalize lowI (befR rs) runs = low at *
  generalize hasR rs = has at *
  generalize outR rs bs = out at *
  have H1 : Hid (errF f1 0 n1 ≠ 0 → r = errF f1 0 n1) := fun h1 => by rw [hu, if_pos h1]
  have H2 : Hid (errF f1 0 n1 = 0 → r = errF f2 0 n1) := fun h1 => by rw [hu, if_neg (not_not_intro h1)]
  clear hm hb hr1 hr1' h11 h12 hu
  go_enter Try.func44, Try.ntmps44
  go_wp2_with fail
  have HBwb := (Blk.new w 27 #[vn, vl, vr, vb])
  have HLwb := (below_new w (.cells #[vn, vl, vr, vb] 27))
  have hswb : (w.alloc (.cells #[vn, vl, vr, vb] 27)).heap.size = w.heap.size + 1 := by simp
  generalize w.alloc (.cells #[vn, vl, vr, vb] 27) = wb at HBwb HLwb hswb ⊢
  replace HBwb := Lib.hid HBwb
  replace HLwb := Lib.hid HLwb
  have hlwb : w.heap.size < wb.heap.size := by omega
  replace hswb := Lib.hid hswb
  have HWb := Lib.hid (HLwb.out)
  have hl0 : w.heap.size ≤ wb.heap.size := HWb.out.size
  have HBb : Hid (Below wb.heap.size wb wb) := hide (Below.refl _ _)
  have hszb : wb.heap.size ≤ wb.heap.size := Nat.le_refl _
  have HX0b : Hid (Blk wb w.heap.size 27 #[vn, vl, vr, vb]) := hide HBwb.out
  have hxx0 : w.heap.size < wb.heap.size := HX0b.out.lt
  clear HBwb HLwb hswb hlwb
  have HMb := Lib.hid (HM.out.now HWb.out)
  have HRb := Lib.hid (HR.out.now HWb.out)
  have HBvb := Lib.hid (HBv.out.now HWb.out)
  have HRvb := Lib.hid (HRv.out.now HWb.out)
  go_loopw [5] (fun i wr => ∃ k : Nat, k ≤ n1 ∧ i = .int .i64 k ∧ errF f1 0 n1 = errF f1 k (n1 - k) ∧ Below wb.heap.size wb wr) (fun i _ => n1 - (intOf i).toNat)
  case atStart => exact ⟨0, by omega, rfl, rfl, Below.refl _ _⟩
  case round =>
    obtain ⟨k, hk, rfl, hF, hbr⟩ := hrel
    have HF := Lib.hid hF
    clear hF
    obtain ⟨wo, rfl⟩ : ∃ wo : World, wo = wr := ⟨_, rfl⟩
    have HBo := Lib.hid (HBb.out.trans (hbr.mono hszb))
    have HWo := Lib.hid (HWb.out.trans (hbr.mono HWb.out.size))
    have hszo : wb.heap.size ≤ wo.heap.size := Nat.le_trans hszb hbr.size
    have HX0o := Lib.hid (HX0b.out.below hbr (Nat.lt_of_lt_of_le hxx0 hszb))
    have HMo := Lib.hid (HMb.out.now hbr)
    have HRo := Lib.hid (HRb.out.now hbr)
    have HBvo := Lib.hid (HBvb.out.now hbr)
    have HRvo := Lib.hid (HRvb.out.now hbr)
    clear hbr
    by_cases hlt : k < n1
    · obtain ⟨ad, rfl, hab, hc⟩ := HRo.out.int hlt
      have HVk := Lib.hid (HV1.out k)
      have HYes : Hid (f1 k ≠ 0 → r = f1 k) := fun h => by
        have e := HF.out.trans (errF_yes hlt h)
        exact (H1.out (by rw [e]; exact h)).trans e
      have HNo : Hid (f1 k = 0 → errF f1 0 n1 = errF f1 (k + 1) (n1 - (k + 1))) := fun h => HF.out.trans (errF_no hlt h)
      have HPrev : Hid (∀ k', k = k' + 1 → wo.cell? (ad.add k') = some (.int .i64 (runs.getD k' 0))) := fun k' hk' => by
        obtain ⟨ad', had, _, hcs'⟩ := HRo.out.int (show k' < n1 by omega)
        injection had with had
        subst had
        exact hcs'
      generalize runs.getD k 0 = x at *
      obtain ⟨hx, hhx⟩ : ∃ b, has x = b := ⟨_, rfl⟩
      have HHx := Lib.hid hhx
      rw [hhx] at HVk
      clear hhx
      have HMod : Hid (StrV Rn.cells 7 wo.drew wo.drew.heap.size vr rs) := hide HMo.out
      have HX := HX0o.out
      have hS : ∀ W, Below wo.heap.size wo W → (fun W => Below wo.heap.size wo W ∧ W.cell? (ad.add k) = some (.int .i64 x) ∧ Blk W w.heap.size 27 #[vn, vl, vr, vb]) W := fun W hB => ⟨hB, (hB.cell (by rw [block_of_add]; exact hab)).trans hc, HX0o.out.below hB (Nat.lt_of_lt_of_le hxx0 hszo)⟩
      have HS := Lib.hid hS
      go_wp2_with fail
      go_cut [7] (fun s wx => s = .bool hx ∧ Below wo.heap.size wo wx)
      case first =>
        have h0 := hS _ ((Below.refl wo.heap.size wo).drew)
        clear hS HX
        refine wp_region_held_drew (S := fun W => Below wo.heap.size wo W ∧ W.cell? (ad.add k) = some (.int .i64 x) ∧ Blk W w.heap.size 27 #[vn, vl, vr, vb]) (by kernel_rfl) (h0) (fun hHeld => ?_)
        refine held_load 0 (some 16) 27 (.tmp 2) (by rfl) (by kernel_rfl) (by kernel_rfl) (by kernel_rfl) (w.heap.size) 27 #[vn, vl, vr, vb] (fun _ _ _ h => h) (by rfl) (fun _ h => h.2.2) _ Try.underlying27 rfl (by kernel_rfl) (by assumption) ?_
        try simp only [Act.put, List.setIfInBounds_toArray, List.set_cons_zero, List.set_cons_succ]
        refine held_run 1 (some 17) (.move (.tmp 1)) ?v4_1_3 (by rfl) (by kernel_rfl) (by kernel_rfl) (by kernel_rfl) (fun _ _ _ h => h) (fun o ho w hS => ?y4_1_3) (by assumption) ?r4_1_3
        case y4_1_3 => (try dsimp only at hS); unfold execOp; simp only [ho]; go_simp; try with_reducible rfl
        try simp only [Act.put, List.setIfInBounds_toArray, List.set_cons_zero, List.set_cons_succ]
        refine held_run 2 (some 18) (.move (.tmp 5)) ?v4_1_4 (by rfl) (by kernel_rfl) (by kernel_rfl) (by kernel_rfl) (fun _ _ _ h => h) (fun o ho w hS => ?y4_1_4) (by assumption) ?r4_1_4
        case y4_1_4 => (try dsimp only at hS); unfold execOp; simp only [ho]; go_simp; try with_reducible rfl
        try simp only [Act.put, List.setIfInBounds_toArray, List.set_cons_zero, List.set_cons_succ]
        refine held_run 3 (some 19) (.indexAddr 25 (.tmp 17) (.tmp 18)) ?v4_1_5 (by rfl) (by kernel_rfl) (by kernel_rfl) (by kernel_rfl) (fun _ _ _ h => h) (fun o ho w hS => ?y4_1_5) (by assumption) ?r4_1_5
        case y4_1_5 => (try dsimp only at hS); unfold execOp; simp only [ho]; go_simp; try with_reducible rfl
        try simp only [Act.put, List.setIfInBounds_toArray, List.set_cons_zero, List.set_cons_succ]
        refine held_run 4 (some 20) (.load 3 (.tmp 19)) ?v4_1_6 (by rfl) (by kernel_rfl) (by kernel_rfl) (by kernel_rfl) (fun _ _ _ h => h) (fun o ho w hS => ?y4_1_6) (by assumption) ?r4_1_6
        case y4_1_6 => (try dsimp only at hS); unfold execOp; simp only [ho]; go_simp; try with_reducible rfl
        try simp only [Act.put, List.setIfInBounds_toArray, List.set_cons_zero, List.set_cons_succ]
        refine held_two 5 9 (by kernel_rfl) ?_ ?_
        · refine op_call 5 (some 21) 59 [(.tmp 16), (.tmp 20)] #[27, 3] #[.agg #[vn, vl, vr, vb], .int .i64 x] (by rfl) (by rfl) Try.func59 (by rfl) (by rfl) ?_
          refine (HC1.out x hx _ HMod.out HHx.out).mono ?_
          rintro e w1 ⟨i1, i2, i3, i4, i5, i6, i7, rfl, hb1⟩
          have HY1 : Hid (Below wo.heap.size wo w1) := hide ((Below.refl wo.heap.size wo).drew.trans hb1)
          clear h0
          have h0 := HS.out _ HY1.out
          refine ⟨_, rfl, h0, ?_⟩
          try simp only [Act.put, List.setIfInBounds_toArray, List.set_cons_zero, List.set_cons_succ]
          refine held_run 6 (some 15) (.move (.tmp 21)) ?v4_1_8 (by rfl) (by kernel_rfl) (by kernel_rfl) (by kernel_rfl) (fun _ _ _ h => h) (fun o ho w hS => ?y4_1_8) (by assumption) ?r4_1_8
          case y4_1_8 => (try dsimp only at hS); unfold execOp; simp only [ho]; go_simp; try with_reducible rfl
          try simp only [Act.put, List.setIfInBounds_toArray, List.set_cons_zero, List.set_cons_succ]
          refine held_run 7 (some 22) (.extract (.tmp 15) 0) ?v4_1_9 (by rfl) (by kernel_rfl) (by kernel_rfl) (by kernel_rfl) (fun _ _ _ h => h) (fun o ho w hS => ?y4_1_9) (by assumption) ?r4_1_9
          case y4_1_9 => (try dsimp only at hS); unfold execOp; simp only [ho]; go_simp; try with_reducible rfl
          try simp only [Act.put, List.setIfInBounds_toArray, List.set_cons_zero, List.set_cons_succ]
          refine held_run 8 (some 23) (.extract (.tmp 15) 1) ?v4_1_10 (by rfl) (by kernel_rfl) (by kernel_rfl) (by kernel_rfl) (fun _ _ _ h => h) (fun o ho w hS => ?y4_1_10) (by assumption) ?r4_1_10
          case y4_1_10 => (try dsimp only at hS); unfold execOp; simp only [ho]; go_simp; try with_reducible rfl
          try simp only [Act.put, List.setIfInBounds_toArray, List.set_cons_zero, List.set_cons_succ]
          refine held_one 9 (by kernel_rfl) ?_
          refine op_alloc 9 (some 6) 60 #[.int .i64 0, .int .i64 0, .int .i64 0, .int .i64 0, .int .i64 0, .int .i64 0, .int .i64 0] (by rfl) (by kernel_rfl) ?_
          intro w2 hx2 hb2
          have HZ2 := Lib.hid hx2
          have HY2 : Hid (Below wo.heap.size wo w2) := hide (HY1.out.trans (hb2.mono HY1.out.size))
          clear h0
          have h0 := HS.out _ HY2.out
          refine ⟨h0, ?_⟩
          try simp only [Act.put, List.setIfInBounds_toArray, List.set_cons_zero, List.set_cons_succ]
          refine held_one 10 (by kernel_rfl) ?_
          refine op_store_blk 10 60 (.tmp 6) (.tmp 22) (by rfl) (w1.heap.size) #[.int .i64 i1, .int .i64 i2, .int .i64 i3, .int .i64 i4, .int .i64 i5, .int .i64 i6, .int .i64 i7] rfl rfl _ _ (HZ2.out) (by kernel_rfl) rfl (by simp [Value.oneCell']) ?_
          intro w3 hx3 hon3
          have HY3 : Hid (Below wo.heap.size wo w3) := hide (hon3.below HY2.out HY1.out.size)
          clear h0
          have h0 := HS.out _ HY3.out
          refine ⟨h0, ?_⟩
          try simp only [Act.put]
          refine held_run 11 (some 7) (.assign (.tmp 23)) ?v4_1_13 (by rfl) (by kernel_rfl) (by kernel_rfl) (by kernel_rfl) (fun _ _ _ h => h) (fun o ho w hS => ?y4_1_13) (by assumption) ?r4_1_13
          case y4_1_13 => (try dsimp only at hS); unfold execOp; simp only [ho]; go_simp; try with_reducible rfl
          try simp only [Act.put, List.setIfInBounds_toArray, List.set_cons_zero, List.set_cons_succ]
          refine wpAnyH_done (by kernel_rfl) ?_ _
          go_wp2_with fail
          go_meet
          exact ⟨rfl, HY3.out⟩
        · refine op_alloc 9 (some 6) 60 #[.int .i64 0, .int .i64 0, .int .i64 0, .int .i64 0, .int .i64 0, .int .i64 0, .int .i64 0] (by rfl) (by kernel_rfl) ?_
          intro w2 hx2 hb2
          have HZ2 := Lib.hid hx2
          have HY2 : Hid (Below wo.heap.size wo w2) := hide ((Below.refl wo.heap.size wo).drew.trans hb2)
          have hlw := hx2.lt
          have HM2 : Hid (StrV Rn.cells 7 w2 w2.heap.size vr rs) := hide (HMod.out.now hb2)
          clear h0
          have h0 := HS.out _ HY2.out
          refine ⟨h0, ?_⟩
          try simp only [Act.put, List.setIfInBounds_toArray, List.set_cons_zero, List.set_cons_succ]
          refine held_call 5 (some 21) 59 [(.tmp 16), (.tmp 20)] #[27, 3] #[.agg #[vn, vl, vr, vb], .int .i64 x] (by rfl) (by rfl) (by kernel_rfl) Try.func59 (by rfl) (by rfl) ?_
          refine (HC1.out x hx _ HM2.out HHx.out).mono ?_
          rintro e w1 ⟨i1, i2, i3, i4, i5, i6, i7, rfl, hb1⟩
          have HY1 : Hid (Below wo.heap.size wo w1) := hide (HY2.out.trans (hb1.mono HY2.out.size))
          have HZ1 := Lib.hid (HZ2.out.below hb1 hlw)
          clear h0
          have h0 := HS.out _ HY1.out
          refine ⟨_, rfl, h0, ?_⟩
          try simp only [Act.put, List.setIfInBounds_toArray, List.set_cons_zero, List.set_cons_succ]
          refine held_run 6 (some 15) (.move (.tmp 21)) ?v4_1_16 (by rfl) (by kernel_rfl) (by kernel_rfl) (by kernel_rfl) (fun _ _ _ h => h) (fun o ho w hS => ?y4_1_16) (by assumption) ?r4_1_16
          case y4_1_16 => (try dsimp only at hS); unfold execOp; simp only [ho]; go_simp; try with_reducible rfl
          try simp only [Act.put, List.setIfInBounds_toArray, List.set_cons_zero, List.set_cons_succ]
          refine held_run 7 (some 22) (.extract (.tmp 15) 0) ?v4_1_17 (by rfl) (by kernel_rfl) (by kernel_rfl) (by kernel_rfl) (fun _ _ _ h => h) (fun o ho w hS => ?y4_1_17) (by assumption) ?r4_1_17
          case y4_1_17 => (try dsimp only at hS); unfold execOp; simp only [ho]; go_simp; try with_reducible rfl
          try simp only [Act.put, List.setIfInBounds_toArray, List.set_cons_zero, List.set_cons_succ]
          refine held_run 8 (some 23) (.extract (.tmp 15) 1) ?v4_1_18 (by rfl) (by kernel_rfl) (by kernel_rfl) (by kernel_rfl) (fun _ _ _ h => h) (fun o ho w hS => ?y4_1_18) (by assumption) ?r4_1_18
          case y4_1_18 => (try dsimp only at hS); unfold execOp; simp only [ho]; go_simp; try with_reducible rfl
          try simp only [Act.put, List.setIfInBounds_toArray, List.set_cons_zero, List.set_cons_succ]
          refine held_one 10 (by kernel_rfl) ?_
          refine op_store_blk 10 60 (.tmp 6) (.tmp 22) (by rfl) (wo.drew.heap.size) #[.int .i64 i1, .int .i64 i2, .int .i64 i3, .int .i64 i4, .int .i64 i5, .int .i64 i6, .int .i64 i7] rfl rfl _ _ (HZ1.out) (by kernel_rfl) rfl (by simp [Value.oneCell']) ?_
          intro w3 hx3 hon3
          have HY3 : Hid (Below wo.heap.size wo w3) := hide (hon3.below HY1.out (Nat.le_refl _))
          clear h0
          have h0 := HS.out _ HY3.out
          refine ⟨h0, ?_⟩
          try simp only [Act.put]
          refine held_run 11 (some 7) (.assign (.tmp 23)) ?v4_1_20 (by rfl) (by kernel_rfl) (by kernel_rfl) (by kernel_rfl) (fun _ _ _ h => h) (fun o ho w hS => ?y4_1_20) (by assumption) ?r4_1_20
          case y4_1_20 => (try dsimp only at hS); unfold execOp; simp only [ho]; go_simp; try with_reducible rfl
          try simp only [Act.put, List.setIfInBounds_toArray, List.set_cons_zero, List.set_cons_succ]
          refine wpAnyH_done (by kernel_rfl) ?_ _
          go_wp2_with fail
          go_meet
          exact ⟨rfl, HY3.out⟩
      obtain ⟨rfl, hcut⟩ := hcut
      have HWq := Lib.hid hcut
      clear hS HX HS
      have HBc := Lib.hid (HBo.out.trans (hcut.mono hszo))
      have HWc := Lib.hid (HWo.out.trans (hcut.mono HWo.out.size))
      have hszc : wb.heap.size ≤ wc.heap.size := Nat.le_trans hszo hcut.size
      have HX0c := Lib.hid (HX0o.out.below hcut (Nat.lt_of_lt_of_le hxx0 hszo))
      have HMc := Lib.hid (HMo.out.now hcut)
      have HRc := Lib.hid (HRo.out.now hcut)
      have HBvc := Lib.hid (HBvo.out.now hcut)
      have HRvc := Lib.hid (HRvo.out.now hcut)
      clear hcut
      have hwc : wc = wc := rfl
      cases hx with
      | false =>
        have HZ : Hid (r = 8) := hide (by have h : f1 k = 8 := HVk.out; rw [HYes.out (by rw [h]; decide), h])
        go_wp2_with fail
        go_ret
        exact ⟨ret_i HZ.out.symm, HWc.out⟩
      | true =>
        have hcx : wc.cell? (ad.add k) = some (.int .i64 x) := (HWq.out.cell (by rw [block_of_add]; exact hab)).trans hc
        rcases Nat.eq_zero_or_pos k with hk0 | hk0
        · subst hk0
          have HGo := Lib.hid (HNo.out (by rw [HVk.out, if_neg (by simp), if_neg (fun h => absurd h.1 (by omega))]))
          go_wp2_with fail
          refine wp_region_held_drew (S := fun _ => True) (by kernel_rfl) (trivial) (fun hHeld => ?_)
          refine held_run 0 (some 26) (.move (.tmp 5)) ?v7_21_22 (by rfl) (by kernel_rfl) (by kernel_rfl) (by kernel_rfl) (fun _ _ _ h => h) (fun o ho w hS => ?y7_21_22) (by assumption) ?r7_21_22
          case y7_21_22 => (try dsimp only at hS); unfold execOp; simp only [ho]; go_simp; try with_reducible rfl
          try simp only [Act.put, List.setIfInBounds_toArray, List.set_cons_zero, List.set_cons_succ]
          refine held_run 1 (some 27) (.binOp .gtr 3 (.tmp 26) (.const (.int .i64 0)) 3) ?v7_21_23 (by rfl) (by kernel_rfl) (by kernel_rfl) (by kernel_rfl) (fun _ _ _ h => h) (fun o ho w hS => ?y7_21_23) (by assumption) ?r7_21_23
          case y7_21_23 => (try dsimp only at hS); unfold execOp; simp only [ho]; go_simp; try with_reducible rfl
          try simp only [Act.put, List.setIfInBounds_toArray, List.set_cons_zero, List.set_cons_succ]
          refine held_run 2 (some 28) (.move (.tmp 27)) ?v7_21_24 (by rfl) (by kernel_rfl) (by kernel_rfl) (by kernel_rfl) (fun _ _ _ h => h) (fun o ho w hS => ?y7_21_24) (by assumption) ?r7_21_24
          case y7_21_24 => (try dsimp only at hS); unfold execOp; simp only [ho]; go_simp; try with_reducible rfl
          try simp only [Act.put, List.setIfInBounds_toArray, List.set_cons_zero, List.set_cons_succ]
          refine held_skip 3 (some 29) (by rfl) (by kernel_rfl) (by kernel_rfl) (by kernel_rfl) (fun _ _ _ h => h) (by assumption) ?_
          try simp only [Act.put, List.setIfInBounds_toArray, List.set_cons_zero, List.set_cons_succ]
          refine held_skip 4 (some 30) (by rfl) (by kernel_rfl) (by kernel_rfl) (by kernel_rfl) (fun _ _ _ h => h) (by assumption) ?_
          try simp only [Act.put, List.setIfInBounds_toArray, List.set_cons_zero, List.set_cons_succ]
          refine held_skip 5 (some 31) (by rfl) (by kernel_rfl) (by kernel_rfl) (by kernel_rfl) (fun _ _ _ h => h) (by assumption) ?_
          try simp only [Act.put, List.setIfInBounds_toArray, List.set_cons_zero, List.set_cons_succ]
          refine held_skip 6 (some 32) (by rfl) (by kernel_rfl) (by kernel_rfl) (by kernel_rfl) (fun _ _ _ h => h) (by assumption) ?_
          try simp only [Act.put, List.setIfInBounds_toArray, List.set_cons_zero, List.set_cons_succ]
          refine held_skip 7 (some 33) (by rfl) (by kernel_rfl) (by kernel_rfl) (by kernel_rfl) (fun _ _ _ h => h) (by assumption) ?_
          try simp only [Act.put, List.setIfInBounds_toArray, List.set_cons_zero, List.set_cons_succ]
          refine held_skip 8 (some 34) (by rfl) (by kernel_rfl) (by kernel_rfl) (by kernel_rfl) (fun _ _ _ h => h) (by assumption) ?_
          try simp only [Act.put, List.setIfInBounds_toArray, List.set_cons_zero, List.set_cons_succ]
          refine held_skip 9 (some 35) (by rfl) (by kernel_rfl) (by kernel_rfl) (by kernel_rfl) (fun _ _ _ h => h) (by assumption) ?_
          try simp only [Act.put, List.setIfInBounds_toArray, List.set_cons_zero, List.set_cons_succ]
          refine held_skip 10 (some 36) (by rfl) (by kernel_rfl) (by kernel_rfl) (by kernel_rfl) (fun _ _ _ h => h) (by assumption) ?_
          try simp only [Act.put, List.setIfInBounds_toArray, List.set_cons_zero, List.set_cons_succ]
          refine held_skip 11 (some 37) (by rfl) (by kernel_rfl) (by kernel_rfl) (by kernel_rfl) (fun _ _ _ h => h) (by assumption) ?_
          try simp only [Act.put, List.setIfInBounds_toArray, List.set_cons_zero, List.set_cons_succ]
          refine held_skip 12 (some 38) (by rfl) (by kernel_rfl) (by kernel_rfl) (by kernel_rfl) (fun _ _ _ h => h) (by assumption) ?_
          try simp only [Act.put, List.setIfInBounds_toArray, List.set_cons_zero, List.set_cons_succ]
          refine held_run 13 (some 39) (.pick (.tmp 28) (.tmp 38) (.const (Value.bool false))) ?v7_21_35 (by rfl) (by kernel_rfl) (by kernel_rfl) (by kernel_rfl) (fun _ _ _ h => h) (fun o ho w hS => ?y7_21_35) (by assumption) ?r7_21_35
          case y7_21_35 => (try dsimp only at hS); unfold execOp; simp only [ho]; go_simp; try with_reducible rfl
          try simp only [Act.put, List.setIfInBounds_toArray, List.set_cons_zero, List.set_cons_succ]
          refine wpAnyH_done (by kernel_rfl) ?_ _
          go_wp2_with fail
          go_roundw
          case rel => exact ⟨1, by omega, by go_num, HGo.out, HBc.out.drew⟩
          case measure => simp [intOf]; omega
        · obtain ⟨k', hk'⟩ : ∃ k', k = k' + 1 := ⟨k - 1, by omega⟩
          have hcp0 := HPrev.out k' hk'
          have hkm : k - 1 = k' := by omega
          rw [hkm] at HVk
          clear hkm
          generalize runs.getD k' 0 = p at *
          have hcp : wc.cell? (ad.add k') = some (.int .i64 p) := (HWq.out.cell (by rw [block_of_add]; exact hab)).trans hcp0
          clear hcp0
          have hj : (k : Int) - 1 = (k' : Int) := by omega
          have hkn : k' < n1 := by omega
          have dk : decide (0 < k) = true := decide_eq_true hk0
          have hwr : IntKind.i64.wrap (k' : Int) = (k' : Int) := IntWalk.i64_in _ (by omega)
          clear hk'
          by_cases h3 : x ≤ p
          · have HZ : Hid (r = 11) := hide (by have h : f1 k = 11 := (by rw [HVk.out, if_neg (by simp), if_pos ⟨hk0, h3⟩]); rw [HYes.out (by rw [h]; decide), h])
            go_wp2_with fail
            refine wp_region_held_drew (S := fun W => W.cell? (ad.add k) = some (.int .i64 x) ∧ W.cell? (ad.add k') = some (.int .i64 p)) (by kernel_rfl) (⟨hcx, hcp⟩) (fun hHeld => ?_)
            refine held_run 0 (some 26) (.move (.tmp 5)) ?v7_36_37 (by rfl) (by kernel_rfl) (by kernel_rfl) (by kernel_rfl) (fun _ _ _ h => h) (fun o ho w hS => ?y7_36_37) (by assumption) ?r7_36_37
            case y7_36_37 => (try dsimp only at hS); unfold execOp; simp only [ho]; go_simp; try with_reducible rfl
            try simp only [Act.put, List.setIfInBounds_toArray, List.set_cons_zero, List.set_cons_succ]
            refine held_run 1 (some 27) (.binOp .gtr 3 (.tmp 26) (.const (.int .i64 0)) 3) ?v7_36_38 (by rfl) (by kernel_rfl) (by kernel_rfl) (by kernel_rfl) (fun _ _ _ h => h) (fun o ho w hS => ?y7_36_38) (by assumption) ?r7_36_38
            case y7_36_38 => (try dsimp only at hS); unfold execOp; simp only [ho]; go_simp; try with_reducible rfl
            try simp only [Act.put, List.setIfInBounds_toArray, List.set_cons_zero, List.set_cons_succ]
            refine held_run 2 (some 28) (.move (.tmp 27)) ?v7_36_39 (by rfl) (by kernel_rfl) (by kernel_rfl) (by kernel_rfl) (fun _ _ _ h => h) (fun o ho w hS => ?y7_36_39) (by assumption) ?r7_36_39
            case y7_36_39 => (try dsimp only at hS); unfold execOp; simp only [ho]; go_simp; try with_reducible rfl
            try simp only [Act.put, List.setIfInBounds_toArray, List.set_cons_zero, List.set_cons_succ]
            refine held_run 3 (some 29) (.move (.tmp 1)) ?v7_36_40 (by rfl) (by kernel_rfl) (by kernel_rfl) (by kernel_rfl) (fun _ _ _ h => h) (fun o ho w hS => ?y7_36_40) (by assumption) ?r7_36_40
            case y7_36_40 => (try dsimp only at hS); unfold execOp; simp only [ho]; go_simp; try with_reducible rfl
            try simp only [Act.put, List.setIfInBounds_toArray, List.set_cons_zero, List.set_cons_succ]
            refine held_run 4 (some 30) (.move (.tmp 5)) ?v7_36_41 (by rfl) (by kernel_rfl) (by kernel_rfl) (by kernel_rfl) (fun _ _ _ h => h) (fun o ho w hS => ?y7_36_41) (by assumption) ?r7_36_41
            case y7_36_41 => (try dsimp only at hS); unfold execOp; simp only [ho]; go_simp; try with_reducible rfl
            try simp only [Act.put, List.setIfInBounds_toArray, List.set_cons_zero, List.set_cons_succ]
            refine held_run 5 (some 31) (.indexAddr 25 (.tmp 29) (.tmp 30)) ?v7_36_42 (by rfl) (by kernel_rfl) (by kernel_rfl) (by kernel_rfl) (fun _ _ _ h => h) (fun o ho w hS => ?y7_36_42) (by assumption) ?r7_36_42
            case y7_36_42 => (try dsimp only at hS); unfold execOp; simp only [ho]; go_simp; try with_reducible rfl
            try simp only [Act.put, List.setIfInBounds_toArray, List.set_cons_zero, List.set_cons_succ]
            refine held_run 6 (some 32) (.load 3 (.tmp 31)) ?v7_36_43 (by rfl) (by kernel_rfl) (by kernel_rfl) (by kernel_rfl) (fun _ _ _ h => h) (fun o ho w hS => ?y7_36_43) (by assumption) ?r7_36_43
            case y7_36_43 => (try dsimp only at hS); unfold execOp; simp only [ho]; go_simp; try with_reducible rfl
            try simp only [Act.put, List.setIfInBounds_toArray, List.set_cons_zero, List.set_cons_succ]
            refine held_run 7 (some 33) (.move (.tmp 1)) ?v7_36_44 (by rfl) (by kernel_rfl) (by kernel_rfl) (by kernel_rfl) (fun _ _ _ h => h) (fun o ho w hS => ?y7_36_44) (by assumption) ?r7_36_44
            case y7_36_44 => (try dsimp only at hS); unfold execOp; simp only [ho]; go_simp; try with_reducible rfl
            try simp only [Act.put, List.setIfInBounds_toArray, List.set_cons_zero, List.set_cons_succ]
            refine held_run 8 (some 34) (.move (.tmp 5)) ?v7_36_45 (by rfl) (by kernel_rfl) (by kernel_rfl) (by kernel_rfl) (fun _ _ _ h => h) (fun o ho w hS => ?y7_36_45) (by assumption) ?r7_36_45
            case y7_36_45 => (try dsimp only at hS); unfold execOp; simp only [ho]; go_simp; try with_reducible rfl
            try simp only [Act.put, List.setIfInBounds_toArray, List.set_cons_zero, List.set_cons_succ]
            refine held_run 9 (some 35) (.binOp .sub 3 (.tmp 34) (.const (.int .i64 1)) 3) ?v7_36_46 (by rfl) (by kernel_rfl) (by kernel_rfl) (by kernel_rfl) (fun _ _ _ h => h) (fun o ho w hS => ?y7_36_46) (by assumption) ?r7_36_46
            case y7_36_46 => (try dsimp only at hS); unfold execOp; simp only [ho]; go_simp; try with_reducible rfl
            try simp only [Act.put, List.setIfInBounds_toArray, List.set_cons_zero, List.set_cons_succ]
            refine held_run 10 (some 36) (.indexAddr 25 (.tmp 33) (.tmp 35)) ?v7_36_47 (by rfl) (by kernel_rfl) (by kernel_rfl) (by kernel_rfl) (fun _ _ _ h => h) (fun o ho w hS => ?y7_36_47) (by assumption) ?r7_36_47
            case y7_36_47 => (try dsimp only at hS); unfold execOp; simp only [ho]; go_simp; try with_reducible rfl
            try simp only [Act.put, List.setIfInBounds_toArray, List.set_cons_zero, List.set_cons_succ]
            refine held_run 11 (some 37) (.load 3 (.tmp 36)) ?v7_36_48 (by rfl) (by kernel_rfl) (by kernel_rfl) (by kernel_rfl) (fun _ _ _ h => h) (fun o ho w hS => ?y7_36_48) (by assumption) ?r7_36_48
            case y7_36_48 => (try dsimp only at hS); unfold execOp; simp only [ho]; go_simp; try with_reducible rfl
            try simp only [Act.put, List.setIfInBounds_toArray, List.set_cons_zero, List.set_cons_succ]
            refine held_run 12 (some 38) (.binOp .leq 3 (.tmp 32) (.tmp 37) 3) ?v7_36_49 (by rfl) (by kernel_rfl) (by kernel_rfl) (by kernel_rfl) (fun _ _ _ h => h) (fun o ho w hS => ?y7_36_49) (by assumption) ?r7_36_49
            case y7_36_49 => (try dsimp only at hS); unfold execOp; simp only [ho]; go_simp; try with_reducible rfl
            try simp only [Act.put, List.setIfInBounds_toArray, List.set_cons_zero, List.set_cons_succ]
            refine held_run 13 (some 39) (.pick (.tmp 28) (.tmp 38) (.const (Value.bool false))) ?v7_36_50 (by rfl) (by kernel_rfl) (by kernel_rfl) (by kernel_rfl) (fun _ _ _ h => h) (fun o ho w hS => ?y7_36_50) (by assumption) ?r7_36_50
            case y7_36_50 => (try dsimp only at hS); unfold execOp; simp only [ho]; go_simp; try with_reducible rfl
            try simp only [Act.put, List.setIfInBounds_toArray, List.set_cons_zero, List.set_cons_succ]
            refine wpAnyH_done (by kernel_rfl) ?_ _
            clear hwr
            go_wp2_with fail
            go_ret
            exact ⟨ret_i HZ.out.symm, HWc.out.drew⟩
          · have HGo := Lib.hid (HNo.out (by rw [HVk.out, if_neg (by simp), if_neg (fun h => h3 h.2)]))
            have d3 : decide (x ≤ p) = false := decide_eq_false h3
            go_wp2_with fail
            refine wp_region_held_drew (S := fun W => W.cell? (ad.add k) = some (.int .i64 x) ∧ W.cell? (ad.add k') = some (.int .i64 p)) (by kernel_rfl) (⟨hcx, hcp⟩) (fun hHeld => ?_)
            refine held_run 0 (some 26) (.move (.tmp 5)) ?v7_51_52 (by rfl) (by kernel_rfl) (by kernel_rfl) (by kernel_rfl) (fun _ _ _ h => h) (fun o ho w hS => ?y7_51_52) (by assumption) ?r7_51_52
            case y7_51_52 => (try dsimp only at hS); unfold execOp; simp only [ho]; go_simp; try with_reducible rfl
            try simp only [Act.put, List.setIfInBounds_toArray, List.set_cons_zero, List.set_cons_succ]
            refine held_run 1 (some 27) (.binOp .gtr 3 (.tmp 26) (.const (.int .i64 0)) 3) ?v7_51_53 (by rfl) (by kernel_rfl) (by kernel_rfl) (by kernel_rfl) (fun _ _ _ h => h) (fun o ho w hS => ?y7_51_53) (by assumption) ?r7_51_53
            case y7_51_53 => (try dsimp only at hS); unfold execOp; simp only [ho]; go_simp; try with_reducible rfl
            try simp only [Act.put, List.setIfInBounds_toArray, List.set_cons_zero, List.set_cons_succ]
            refine held_run 2 (some 28) (.move (.tmp 27)) ?v7_51_54 (by rfl) (by kernel_rfl) (by kernel_rfl) (by kernel_rfl) (fun _ _ _ h => h) (fun o ho w hS => ?y7_51_54) (by assumption) ?r7_51_54
            case y7_51_54 => (try dsimp only at hS); unfold execOp; simp only [ho]; go_simp; try with_reducible rfl
            try simp only [Act.put, List.setIfInBounds_toArray, List.set_cons_zero, List.set_cons_succ]
            refine held_run 3 (some 29) (.move (.tmp 1)) ?v7_51_55 (by rfl) (by kernel_rfl) (by kernel_rfl) (by kernel_rfl) (fun _ _ _ h => h) (fun o ho w hS => ?y7_51_55) (by assumption) ?r7_51_55
            case y7_51_55 => (try dsimp only at hS); unfold execOp; simp only [ho]; go_simp; try with_reducible rfl
            try simp only [Act.put, List.setIfInBounds_toArray, List.set_cons_zero, List.set_cons_succ]
            refine held_run 4 (some 30) (.move (.tmp 5)) ?v7_51_56 (by rfl) (by kernel_rfl) (by kernel_rfl) (by kernel_rfl) (fun _ _ _ h => h) (fun o ho w hS => ?y7_51_56) (by assumption) ?r7_51_56
            case y7_51_56 => (try dsimp only at hS); unfold execOp; simp only [ho]; go_simp; try with_reducible rfl
            try simp only [Act.put, List.setIfInBounds_toArray, List.set_cons_zero, List.set_cons_succ]
            refine held_run 5 (some 31) (.indexAddr 25 (.tmp 29) (.tmp 30)) ?v7_51_57 (by rfl) (by kernel_rfl) (by kernel_rfl) (by kernel_rfl) (fun _ _ _ h => h) (fun o ho w hS => ?y7_51_57) (by assumption) ?r7_51_57
            case y7_51_57 => (try dsimp only at hS); unfold execOp; simp only [ho]; go_simp; try with_reducible rfl
            try simp only [Act.put, List.setIfInBounds_toArray, List.set_cons_zero, List.set_cons_succ]
            refine held_run 6 (some 32) (.load 3 (.tmp 31)) ?v7_51_58 (by rfl) (by kernel_rfl) (by kernel_rfl) (by kernel_rfl) (fun _ _ _ h => h) (fun o ho w hS => ?y7_51_58) (by assumption) ?r7_51_58
            case y7_51_58 => (try dsimp only at hS); unfold execOp; simp only [ho]; go_simp; try with_reducible rfl
            try simp only [Act.put, List.setIfInBounds_toArray, List.set_cons_zero, List.set_cons_succ]
            refine held_run 7 (some 33) (.move (.tmp 1)) ?v7_51_59 (by rfl) (by kernel_rfl) (by kernel_rfl) (by kernel_rfl) (fun _ _ _ h => h) (fun o ho w hS => ?y7_51_59) (by assumption) ?r7_51_59
            case y7_51_59 => (try dsimp only at hS); unfold execOp; simp only [ho]; go_simp; try with_reducible rfl
            try simp only [Act.put, List.setIfInBounds_toArray, List.set_cons_zero, List.set_cons_succ]
            refine held_run 8 (some 34) (.move (.tmp 5)) ?v7_51_60 (by rfl) (by kernel_rfl) (by kernel_rfl) (by kernel_rfl) (fun _ _ _ h => h) (fun o ho w hS => ?y7_51_60) (by assumption) ?r7_51_60
            case y7_51_60 => (try dsimp only at hS); unfold execOp; simp only [ho]; go_simp; try with_reducible rfl
            try simp only [Act.put, List.setIfInBounds_toArray, List.set_cons_zero, List.set_cons_succ]
            refine held_run 9 (some 35) (.binOp .sub 3 (.tmp 34) (.const (.int .i64 1)) 3) ?v7_51_61 (by rfl) (by kernel_rfl) (by kernel_rfl) (by kernel_rfl) (fun _ _ _ h => h) (fun o ho w hS => ?y7_51_61) (by assumption) ?r7_51_61
            case y7_51_61 => (try dsimp only at hS); unfold execOp; simp only [ho]; go_simp; try with_reducible rfl
            try simp only [Act.put, List.setIfInBounds_toArray, List.set_cons_zero, List.set_cons_succ]
            refine held_run 10 (some 36) (.indexAddr 25 (.tmp 33) (.tmp 35)) ?v7_51_62 (by rfl) (by kernel_rfl) (by kernel_rfl) (by kernel_rfl) (fun _ _ _ h => h) (fun o ho w hS => ?y7_51_62) (by assumption) ?r7_51_62
            case y7_51_62 => (try dsimp only at hS); unfold execOp; simp only [ho]; go_simp; try with_reducible rfl
            try simp only [Act.put, List.setIfInBounds_toArray, List.set_cons_zero, List.set_cons_succ]
            refine held_run 11 (some 37) (.load 3 (.tmp 36)) ?v7_51_63 (by rfl) (by kernel_rfl) (by kernel_rfl) (by kernel_rfl) (fun _ _ _ h => h) (fun o ho w hS => ?y7_51_63) (by assumption) ?r7_51_63
            case y7_51_63 => (try dsimp only at hS); unfold execOp; simp only [ho]; go_simp; try with_reducible rfl
            try simp only [Act.put, List.setIfInBounds_toArray, List.set_cons_zero, List.set_cons_succ]
            refine held_run 12 (some 38) (.binOp .leq 3 (.tmp 32) (.tmp 37) 3) ?v7_51_64 (by rfl) (by kernel_rfl) (by kernel_rfl) (by kernel_rfl) (fun _ _ _ h => h) (fun o ho w hS => ?y7_51_64) (by assumption) ?r7_51_64
            case y7_51_64 => (try dsimp only at hS); unfold execOp; simp only [ho]; go_simp; try with_reducible rfl
            try simp only [Act.put, List.setIfInBounds_toArray, List.set_cons_zero, List.set_cons_succ]
            refine held_run 13 (some 39) (.pick (.tmp 28) (.tmp 38) (.const (Value.bool false))) ?v7_51_65 (by rfl) (by kernel_rfl) (by kernel_rfl) (by kernel_rfl) (fun _ _ _ h => h) (fun o ho w hS => ?y7_51_65) (by assumption) ?r7_51_65
            case y7_51_65 => (try dsimp only at hS); unfold execOp; simp only [ho]; go_simp; try with_reducible rfl
            try simp only [Act.put, List.setIfInBounds_toArray, List.set_cons_zero, List.set_cons_succ]
            refine wpAnyH_done (by kernel_rfl) ?_ _
            clear hwr
            go_wp2_with fail
            go_roundw
            case rel => exact ⟨k + 1, by omega, by go_num, HGo.out, HBc.out.drew⟩
            case measure => simp [intOf]; omega
    · obtain rfl : k = n1 := by omega
      have HF1 : Hid (errF f1 0 k = 0) := by have h := HF.out; rw [Nat.sub_self] at h; exact hide h
      clear HF
      go_wp2_with fail
      go_loopw [8] (fun i wr => ∃ m : Nat, m ≤ k ∧ i = .int .i64 m ∧ errF f2 0 k = errF f2 m (k - m) ∧ Below wb.heap.size wb wr) (fun i _ => k - (intOf i).toNat)
      case atStart => exact ⟨0, by omega, rfl, rfl, HBo.out⟩
      case round =>
        obtain ⟨m, hm, rfl, hF, hbr⟩ := hrel
        have HF := Lib.hid hF
        clear hF HBo HWo HX0o HMo HRo HBvo HRvo hszo
        obtain ⟨wo, rfl⟩ : ∃ wo : World, wo = wr := ⟨_, rfl⟩
        have HBo := Lib.hid (HBb.out.trans (hbr.mono hszb))
        have HWo := Lib.hid (HWb.out.trans (hbr.mono HWb.out.size))
        have hszo : wb.heap.size ≤ wo.heap.size := Nat.le_trans hszb hbr.size
        have HX0o := Lib.hid (HX0b.out.below hbr (Nat.lt_of_lt_of_le hxx0 hszb))
        have HMo := Lib.hid (HMb.out.now hbr)
        have HRo := Lib.hid (HRb.out.now hbr)
        have HBvo := Lib.hid (HBvb.out.now hbr)
        have HRvo := Lib.hid (HRvb.out.now hbr)
        clear hbr
        by_cases hlt2 : m < k
        · obtain ⟨ad, rfl, hab, hc⟩ := HRo.out.int hlt2
          have HVk := Lib.hid (HV2.out m)
          have HYes : Hid (f2 m ≠ 0 → r = f2 m) := fun h => by
            have e := HF.out.trans (errF_yes hlt2 h)
            exact (H2.out HF1.out).trans e
          have HNo : Hid (f2 m = 0 → errF f2 0 k = errF f2 (m + 1) (k - (m + 1))) := fun h => HF.out.trans (errF_no hlt2 h)
          generalize runs.getD m 0 = x at *
          obtain ⟨ox, hox⟩ : ∃ b, out x = b := ⟨_, rfl⟩
          have HOx := Lib.hid hox
          obtain ⟨lx, hlx⟩ : ∃ b, low x = b := ⟨_, rfl⟩
          have HLx := Lib.hid hlx
          rw [hox, hlx] at HVk
          clear hox hlx
          have HMod : Hid (StrV Rn.cells 7 wo.drew wo.drew.heap.size vr rs) := hide HMo.out
          have HBvod : Hid (RowV wo.drew wo.drew.heap.size vb bs) := hide HBvo.out
          have HX := HX0o.out
          cases ox with
          | true =>
            have HGo := Lib.hid (HNo.out (by rw [HVk.out, if_neg (fun h => by cases h.1)]))
            go_wp2_with fail
            refine wp_region_held_drew (S := fun W => W.cell? (ad.add m) = some (.int .i64 x) ∧ Blk W w.heap.size 27 #[vn, vl, vr, vb]) (by kernel_rfl) (⟨hc, HX⟩) (fun hHeld => ?_)
            refine held_load 0 (some 46) 27 (.tmp 2) (by rfl) (by kernel_rfl) (by kernel_rfl) (by kernel_rfl) (w.heap.size) 27 #[vn, vl, vr, vb] (fun _ _ _ h => h) (by rfl) (fun _ h => h.2) _ Try.underlying27 rfl (by kernel_rfl) (by assumption) ?_
            try simp only [Act.put, List.setIfInBounds_toArray, List.set_cons_zero, List.set_cons_succ]
            refine held_run 1 (some 47) (.move (.tmp 1)) ?v12_66_68 (by rfl) (by kernel_rfl) (by kernel_rfl) (by kernel_rfl) (fun _ _ _ h => h) (fun o ho w hS => ?y12_66_68) (by assumption) ?r12_66_68
            case y12_66_68 => (try dsimp only at hS); unfold execOp; simp only [ho]; go_simp; try with_reducible rfl
            try simp only [Act.put, List.setIfInBounds_toArray, List.set_cons_zero, List.set_cons_succ]
            refine held_run 2 (some 48) (.move (.tmp 8)) ?v12_66_69 (by rfl) (by kernel_rfl) (by kernel_rfl) (by kernel_rfl) (fun _ _ _ h => h) (fun o ho w hS => ?y12_66_69) (by assumption) ?r12_66_69
            case y12_66_69 => (try dsimp only at hS); unfold execOp; simp only [ho]; go_simp; try with_reducible rfl
            try simp only [Act.put, List.setIfInBounds_toArray, List.set_cons_zero, List.set_cons_succ]
            refine held_run 3 (some 49) (.indexAddr 25 (.tmp 47) (.tmp 48)) ?v12_66_70 (by rfl) (by kernel_rfl) (by kernel_rfl) (by kernel_rfl) (fun _ _ _ h => h) (fun o ho w hS => ?y12_66_70) (by assumption) ?r12_66_70
            case y12_66_70 => (try dsimp only at hS); unfold execOp; simp only [ho]; go_simp; try with_reducible rfl
            try simp only [Act.put, List.setIfInBounds_toArray, List.set_cons_zero, List.set_cons_succ]
            refine held_run 4 (some 50) (.load 3 (.tmp 49)) ?v12_66_71 (by rfl) (by kernel_rfl) (by kernel_rfl) (by kernel_rfl) (fun _ _ _ h => h) (fun o ho w hS => ?y12_66_71) (by assumption) ?r12_66_71
            case y12_66_71 => (try dsimp only at hS); unfold execOp; simp only [ho]; go_simp; try with_reducible rfl
            try simp only [Act.put, List.setIfInBounds_toArray, List.set_cons_zero, List.set_cons_succ]
            refine held_call 5 (some 51) 68 [(.tmp 46), (.tmp 50)] #[27, 3] #[.agg #[vn, vl, vr, vb], .int .i64 x] (by rfl) (by rfl) (by kernel_rfl) Try.func68 (by rfl) (by rfl) ?_
            refine (HC2.out x true _ HMod.out HBvod.out HOx.out).mono ?_
            rintro e w1 ⟨rfl, hb1⟩
            have hbb1 : Below wo.heap.size wo w1 := (Below.refl wo.heap.size wo).drew.trans hb1
            have hc1 : w1.cell? (ad.add m) = some (.int .i64 x) := (hbb1.cell (by rw [block_of_add]; exact hab)).trans hc
            have HB1 := Lib.hid (HBo.out.trans (hbb1.mono hszo))
            have HW1 := Lib.hid (HWo.out.trans (hbb1.mono HWo.out.size))
            have hsz1 : wb.heap.size ≤ w1.heap.size := Nat.le_trans hszo hbb1.size
            have HX01 := Lib.hid (HX0o.out.below hbb1 (Nat.lt_of_lt_of_le hxx0 hszo))
            have HM1 := Lib.hid (HMo.out.now hbb1)
            have HR1 := Lib.hid (HRo.out.now hbb1)
            have HBv1 := Lib.hid (HBvo.out.now hbb1)
            have HRv1 := Lib.hid (HRvo.out.now hbb1)
            have hH1 : (fun W => W.cell? (ad.add m) = some (.int .i64 x) ∧ Blk W w.heap.size 27 #[vn, vl, vr, vb]) w1 := ⟨hc1, HX01.out⟩
            refine ⟨_, rfl, hH1, ?_⟩
            clear hb1 hbb1
            try simp only [Act.put, List.setIfInBounds_toArray, List.set_cons_zero, List.set_cons_succ]
            refine held_run 6 (some 52) (.unOp .not 4 (.tmp 51)) ?v12_66_73 (by rfl) (by kernel_rfl) (by kernel_rfl) (by kernel_rfl) (fun _ _ _ h => h) (fun o ho w hS => ?y12_66_73) (by assumption) ?r12_66_73
            case y12_66_73 => (try dsimp only at hS); unfold execOp; simp only [ho]; go_simp; try with_reducible rfl
            try simp only [Act.put, List.setIfInBounds_toArray, List.set_cons_zero, List.set_cons_succ]
            refine held_run 7 (some 53) (.move (.tmp 52)) ?v12_66_74 (by rfl) (by kernel_rfl) (by kernel_rfl) (by kernel_rfl) (fun _ _ _ h => h) (fun o ho w hS => ?y12_66_74) (by assumption) ?r12_66_74
            case y12_66_74 => (try dsimp only at hS); unfold execOp; simp only [ho]; go_simp; try with_reducible rfl
            try simp only [Act.put, List.setIfInBounds_toArray, List.set_cons_zero, List.set_cons_succ]
            refine held_skip 8 (some 54) (by rfl) (by kernel_rfl) (by kernel_rfl) (by kernel_rfl) (fun _ _ _ h => h) (by assumption) ?_
            try simp only [Act.put, List.setIfInBounds_toArray, List.set_cons_zero, List.set_cons_succ]
            refine held_skip 9 (some 55) (by rfl) (by kernel_rfl) (by kernel_rfl) (by kernel_rfl) (fun _ _ _ h => h) (by assumption) ?_
            try simp only [Act.put, List.setIfInBounds_toArray, List.set_cons_zero, List.set_cons_succ]
            refine held_skip 10 (some 56) (by rfl) (by kernel_rfl) (by kernel_rfl) (by kernel_rfl) (fun _ _ _ h => h) (by assumption) ?_
            try simp only [Act.put, List.setIfInBounds_toArray, List.set_cons_zero, List.set_cons_succ]
            refine held_skip 11 (some 57) (by rfl) (by kernel_rfl) (by kernel_rfl) (by kernel_rfl) (fun _ _ _ h => h) (by assumption) ?_
            try simp only [Act.put, List.setIfInBounds_toArray, List.set_cons_zero, List.set_cons_succ]
            refine held_skip 12 (some 58) (by rfl) (by kernel_rfl) (by kernel_rfl) (by kernel_rfl) (fun _ _ _ h => h) (by assumption) ?_
            try simp only [Act.put, List.setIfInBounds_toArray, List.set_cons_zero, List.set_cons_succ]
            refine held_skip 13 (some 59) (by rfl) (by kernel_rfl) (by kernel_rfl) (by kernel_rfl) (fun _ _ _ h => h) (by assumption) ?_
            try simp only [Act.put, List.setIfInBounds_toArray, List.set_cons_zero, List.set_cons_succ]
            refine held_skip 14 (some 60) (by rfl) (by kernel_rfl) (by kernel_rfl) (by kernel_rfl) (fun _ _ _ h => h) (by assumption) ?_
            try simp only [Act.put, List.setIfInBounds_toArray, List.set_cons_zero, List.set_cons_succ]
            refine held_skip 15 (some 61) (by rfl) (by kernel_rfl) (by kernel_rfl) (by kernel_rfl) (fun _ _ _ h => h) (by assumption) ?_
            try simp only [Act.put, List.setIfInBounds_toArray, List.set_cons_zero, List.set_cons_succ]
            refine held_run 16 (some 62) (.pick (.tmp 53) (.tmp 61) (.const (Value.bool false))) ?v12_66_83 (by rfl) (by kernel_rfl) (by kernel_rfl) (by kernel_rfl) (fun _ _ _ h => h) (fun o ho w hS => ?y12_66_83) (by assumption) ?r12_66_83
            case y12_66_83 => (try dsimp only at hS); unfold execOp; simp only [ho]; go_simp; try with_reducible rfl
            try simp only [Act.put, List.setIfInBounds_toArray, List.set_cons_zero, List.set_cons_succ]
            refine wpAnyH_done (by kernel_rfl) ?_ _
            go_wp2_with fail
            go_roundw
            case rel => exact ⟨m + 1, by omega, by go_num, HGo.out, HB1.out⟩
            case measure => simp [intOf]; omega
          | false =>
            by_cases hlo : lx < 0
            · have HZ : Hid (r = 16) := hide (by have h : f2 m = 16 := (by rw [HVk.out, if_pos ⟨rfl, hlo⟩]); rw [HYes.out (by rw [h]; decide), h])
              go_wp2_with fail
              refine wp_region_held_drew (S := fun W => W.cell? (ad.add m) = some (.int .i64 x) ∧ Blk W w.heap.size 27 #[vn, vl, vr, vb]) (by kernel_rfl) (⟨hc, HX⟩) (fun hHeld => ?_)
              refine held_load 0 (some 46) 27 (.tmp 2) (by rfl) (by kernel_rfl) (by kernel_rfl) (by kernel_rfl) (w.heap.size) 27 #[vn, vl, vr, vb] (fun _ _ _ h => h) (by rfl) (fun _ h => h.2) _ Try.underlying27 rfl (by kernel_rfl) (by assumption) ?_
              try simp only [Act.put, List.setIfInBounds_toArray, List.set_cons_zero, List.set_cons_succ]
              refine held_run 1 (some 47) (.move (.tmp 1)) ?v12_84_86 (by rfl) (by kernel_rfl) (by kernel_rfl) (by kernel_rfl) (fun _ _ _ h => h) (fun o ho w hS => ?y12_84_86) (by assumption) ?r12_84_86
              case y12_84_86 => (try dsimp only at hS); unfold execOp; simp only [ho]; go_simp; try with_reducible rfl
              try simp only [Act.put, List.setIfInBounds_toArray, List.set_cons_zero, List.set_cons_succ]
              refine held_run 2 (some 48) (.move (.tmp 8)) ?v12_84_87 (by rfl) (by kernel_rfl) (by kernel_rfl) (by kernel_rfl) (fun _ _ _ h => h) (fun o ho w hS => ?y12_84_87) (by assumption) ?r12_84_87
              case y12_84_87 => (try dsimp only at hS); unfold execOp; simp only [ho]; go_simp; try with_reducible rfl
              try simp only [Act.put, List.setIfInBounds_toArray, List.set_cons_zero, List.set_cons_succ]
              refine held_run 3 (some 49) (.indexAddr 25 (.tmp 47) (.tmp 48)) ?v12_84_88 (by rfl) (by kernel_rfl) (by kernel_rfl) (by kernel_rfl) (fun _ _ _ h => h) (fun o ho w hS => ?y12_84_88) (by assumption) ?r12_84_88
              case y12_84_88 => (try dsimp only at hS); unfold execOp; simp only [ho]; go_simp; try with_reducible rfl
              try simp only [Act.put, List.setIfInBounds_toArray, List.set_cons_zero, List.set_cons_succ]
              refine held_run 4 (some 50) (.load 3 (.tmp 49)) ?v12_84_89 (by rfl) (by kernel_rfl) (by kernel_rfl) (by kernel_rfl) (fun _ _ _ h => h) (fun o ho w hS => ?y12_84_89) (by assumption) ?r12_84_89
              case y12_84_89 => (try dsimp only at hS); unfold execOp; simp only [ho]; go_simp; try with_reducible rfl
              try simp only [Act.put, List.setIfInBounds_toArray, List.set_cons_zero, List.set_cons_succ]
              refine held_call 5 (some 51) 68 [(.tmp 46), (.tmp 50)] #[27, 3] #[.agg #[vn, vl, vr, vb], .int .i64 x] (by rfl) (by rfl) (by kernel_rfl) Try.func68 (by rfl) (by rfl) ?_
              refine (HC2.out x false _ HMod.out HBvod.out HOx.out).mono ?_
              rintro e w1 ⟨rfl, hb1⟩
              have hbb1 : Below wo.heap.size wo w1 := (Below.refl wo.heap.size wo).drew.trans hb1
              have hc1 : w1.cell? (ad.add m) = some (.int .i64 x) := (hbb1.cell (by rw [block_of_add]; exact hab)).trans hc
              have HB1 := Lib.hid (HBo.out.trans (hbb1.mono hszo))
              have HW1 := Lib.hid (HWo.out.trans (hbb1.mono HWo.out.size))
              have hsz1 : wb.heap.size ≤ w1.heap.size := Nat.le_trans hszo hbb1.size
              have HX01 := Lib.hid (HX0o.out.below hbb1 (Nat.lt_of_lt_of_le hxx0 hszo))
              have HM1 := Lib.hid (HMo.out.now hbb1)
              have HR1 := Lib.hid (HRo.out.now hbb1)
              have HBv1 := Lib.hid (HBvo.out.now hbb1)
              have HRv1 := Lib.hid (HRvo.out.now hbb1)
              have hH1 : (fun W => W.cell? (ad.add m) = some (.int .i64 x) ∧ Blk W w.heap.size 27 #[vn, vl, vr, vb]) w1 := ⟨hc1, HX01.out⟩
              refine ⟨_, rfl, hH1, ?_⟩
              clear hb1 hbb1
              try simp only [Act.put, List.setIfInBounds_toArray, List.set_cons_zero, List.set_cons_succ]
              refine held_run 6 (some 52) (.unOp .not 4 (.tmp 51)) ?v12_84_91 (by rfl) (by kernel_rfl) (by kernel_rfl) (by kernel_rfl) (fun _ _ _ h => h) (fun o ho w hS => ?y12_84_91) (by assumption) ?r12_84_91
              case y12_84_91 => (try dsimp only at hS); unfold execOp; simp only [ho]; go_simp; try with_reducible rfl
              try simp only [Act.put, List.setIfInBounds_toArray, List.set_cons_zero, List.set_cons_succ]
              refine held_run 7 (some 53) (.move (.tmp 52)) ?v12_84_92 (by rfl) (by kernel_rfl) (by kernel_rfl) (by kernel_rfl) (fun _ _ _ h => h) (fun o ho w hS => ?y12_84_92) (by assumption) ?r12_84_92
              case y12_84_92 => (try dsimp only at hS); unfold execOp; simp only [ho]; go_simp; try with_reducible rfl
              try simp only [Act.put, List.setIfInBounds_toArray, List.set_cons_zero, List.set_cons_succ]
              refine held_load 8 (some 54) 27 (.tmp 2) (by rfl) (by kernel_rfl) (by kernel_rfl) (by kernel_rfl) (w.heap.size) 27 #[vn, vl, vr, vb] (fun _ _ _ h => h) (by rfl) (fun _ h => h.2) _ Try.underlying27 rfl (by kernel_rfl) (by assumption) ?_
              try simp only [Act.put, List.setIfInBounds_toArray, List.set_cons_zero, List.set_cons_succ]
              refine held_run 9 (some 55) (.move (.tmp 1)) ?v12_84_94 (by rfl) (by kernel_rfl) (by kernel_rfl) (by kernel_rfl) (fun _ _ _ h => h) (fun o ho w hS => ?y12_84_94) (by assumption) ?r12_84_94
              case y12_84_94 => (try dsimp only at hS); unfold execOp; simp only [ho]; go_simp; try with_reducible rfl
              try simp only [Act.put, List.setIfInBounds_toArray, List.set_cons_zero, List.set_cons_succ]
              refine held_run 10 (some 56) (.move (.tmp 1)) ?v12_84_95 (by rfl) (by kernel_rfl) (by kernel_rfl) (by kernel_rfl) (fun _ _ _ h => h) (fun o ho w hS => ?y12_84_95) (by assumption) ?r12_84_95
              case y12_84_95 => (try dsimp only at hS); unfold execOp; simp only [ho]; go_simp; try with_reducible rfl
              try simp only [Act.put, List.setIfInBounds_toArray, List.set_cons_zero, List.set_cons_succ]
              refine held_run 11 (some 57) (.move (.tmp 8)) ?v12_84_96 (by rfl) (by kernel_rfl) (by kernel_rfl) (by kernel_rfl) (fun _ _ _ h => h) (fun o ho w hS => ?y12_84_96) (by assumption) ?r12_84_96
              case y12_84_96 => (try dsimp only at hS); unfold execOp; simp only [ho]; go_simp; try with_reducible rfl
              try simp only [Act.put, List.setIfInBounds_toArray, List.set_cons_zero, List.set_cons_succ]
              refine held_run 12 (some 58) (.indexAddr 25 (.tmp 56) (.tmp 57)) ?v12_84_97 (by rfl) (by kernel_rfl) (by kernel_rfl) (by kernel_rfl) (fun _ _ _ h => h) (fun o ho w hS => ?y12_84_97) (by assumption) ?r12_84_97
              case y12_84_97 => (try dsimp only at hS); unfold execOp; simp only [ho]; go_simp; try with_reducible rfl
              try simp only [Act.put, List.setIfInBounds_toArray, List.set_cons_zero, List.set_cons_succ]
              refine held_run 13 (some 59) (.load 3 (.tmp 58)) ?v12_84_98 (by rfl) (by kernel_rfl) (by kernel_rfl) (by kernel_rfl) (fun _ _ _ h => h) (fun o ho w hS => ?y12_84_98) (by assumption) ?r12_84_98
              case y12_84_98 => (try dsimp only at hS); unfold execOp; simp only [ho]; go_simp; try with_reducible rfl
              try simp only [Act.put, List.setIfInBounds_toArray, List.set_cons_zero, List.set_cons_succ]
              refine held_call 14 (some 60) 69 [(.tmp 54), (.tmp 55), (.tmp 59)] #[27, 25, 3] #[.agg #[vn, vl, vr, vb], .slice (some ad) k c1, .int .i64 x] (by rfl) (by rfl) (by kernel_rfl) Try.func69 (by rfl) (by rfl) ?_
              refine (HC3.out x lx _ HM1.out HRv1.out HLx.out).mono ?_
              rintro e w2 ⟨rfl, hb2⟩
              have hc2 : w2.cell? (ad.add m) = some (.int .i64 x) := (hb2.cell (show (ad.add m).block < w1.heap.size by rw [block_of_add]; have := HB1.out.size; have := World.block_lt_of_cell? w1 _ hc1; rwa [block_of_add] at this)).trans hc1
              have HB2 := Lib.hid (HB1.out.trans (hb2.mono hsz1))
              have HW2 := Lib.hid (HW1.out.trans (hb2.mono HW1.out.size))
              have hsz2 : wb.heap.size ≤ w2.heap.size := Nat.le_trans hsz1 hb2.size
              have HX02 := Lib.hid (HX01.out.below hb2 (Nat.lt_of_lt_of_le hxx0 hsz1))
              have HM2 := Lib.hid (HM1.out.now hb2)
              have HR2 := Lib.hid (HR1.out.now hb2)
              have HBv2 := Lib.hid (HBv1.out.now hb2)
              have HRv2 := Lib.hid (HRv1.out.now hb2)
              have hH2 : (fun W => W.cell? (ad.add m) = some (.int .i64 x) ∧ Blk W w.heap.size 27 #[vn, vl, vr, vb]) w2 := ⟨hc2, HX02.out⟩
              refine ⟨_, rfl, hH2, ?_⟩
              clear hb2
              try simp only [Act.put, List.setIfInBounds_toArray, List.set_cons_zero, List.set_cons_succ]
              refine held_run 15 (some 61) (.binOp .lss 3 (.tmp 60) (.const (.int .i64 0)) 3) ?v12_84_100 (by rfl) (by kernel_rfl) (by kernel_rfl) (by kernel_rfl) (fun _ _ _ h => h) (fun o ho w hS => ?y12_84_100) (by assumption) ?r12_84_100
              case y12_84_100 => (try dsimp only at hS); unfold execOp; simp only [ho]; go_simp; try with_reducible rfl
              try simp only [Act.put, List.setIfInBounds_toArray, List.set_cons_zero, List.set_cons_succ]
              refine held_run 16 (some 62) (.pick (.tmp 53) (.tmp 61) (.const (Value.bool false))) ?v12_84_101 (by rfl) (by kernel_rfl) (by kernel_rfl) (by kernel_rfl) (fun _ _ _ h => h) (fun o ho w hS => ?y12_84_101) (by assumption) ?r12_84_101
              case y12_84_101 => (try dsimp only at hS); unfold execOp; simp only [ho]; go_simp; try with_reducible rfl
              try simp only [Act.put, List.setIfInBounds_toArray, List.set_cons_zero, List.set_cons_succ]
              refine wpAnyH_done (by kernel_rfl) ?_ _
              go_wp2_with fail
              go_ret
              exact ⟨ret_i HZ.out.symm, HW2.out⟩
            · have HGo := Lib.hid (HNo.out (by rw [HVk.out, if_neg (fun h => hlo h.2)]))
              have dl : decide (lx < 0) = false := decide_eq_false hlo
              go_wp2_with fail
              refine wp_region_held_drew (S := fun W => W.cell? (ad.add m) = some (.int .i64 x) ∧ Blk W w.heap.size 27 #[vn, vl, vr, vb]) (by kernel_rfl) (⟨hc, HX⟩) (fun hHeld => ?_)
              refine held_load 0 (some 46) 27 (.tmp 2) (by rfl) (by kernel_rfl) (by kernel_rfl) (by kernel_rfl) (w.heap.size) 27 #[vn, vl, vr, vb] (fun _ _ _ h => h) (by rfl) (fun _ h => h.2) _ Try.underlying27 rfl (by kernel_rfl) (by assumption) ?_
              try simp only [Act.put, List.setIfInBounds_toArray, List.set_cons_zero, List.set_cons_succ]
              refine held_run 1 (some 47) (.move (.tmp 1)) ?v12_102_104 (by rfl) (by kernel_rfl) (by kernel_rfl) (by kernel_rfl) (fun _ _ _ h => h) (fun o ho w hS => ?y12_102_104) (by assumption) ?r12_102_104
              case y12_102_104 => (try dsimp only at hS); unfold execOp; simp only [ho]; go_simp; try with_reducible rfl
              try simp only [Act.put, List.setIfInBounds_toArray, List.set_cons_zero, List.set_cons_succ]
              refine held_run 2 (some 48) (.move (.tmp 8)) ?v12_102_105 (by rfl) (by kernel_rfl) (by kernel_rfl) (by kernel_rfl) (fun _ _ _ h => h) (fun o ho w hS => ?y12_102_105) (by assumption) ?r12_102_105
              case y12_102_105 => (try dsimp only at hS); unfold execOp; simp only [ho]; go_simp; try with_reducible rfl
              try simp only [Act.put, List.setIfInBounds_toArray, List.set_cons_zero, List.set_cons_succ]
              refine held_run 3 (some 49) (.indexAddr 25 (.tmp 47) (.tmp 48)) ?v12_102_106 (by rfl) (by kernel_rfl) (by kernel_rfl) (by kernel_rfl) (fun _ _ _ h => h) (fun o ho w hS => ?y12_102_106) (by assumption) ?r12_102_106
              case y12_102_106 => (try dsimp only at hS); unfold execOp; simp only [ho]; go_simp; try with_reducible rfl
              try simp only [Act.put, List.setIfInBounds_toArray, List.set_cons_zero, List.set_cons_succ]
              refine held_run 4 (some 50) (.load 3 (.tmp 49)) ?v12_102_107 (by rfl) (by kernel_rfl) (by kernel_rfl) (by kernel_rfl) (fun _ _ _ h => h) (fun o ho w hS => ?y12_102_107) (by assumption) ?r12_102_107
              case y12_102_107 => (try dsimp only at hS); unfold execOp; simp only [ho]; go_simp; try with_reducible rfl
              try simp only [Act.put, List.setIfInBounds_toArray, List.set_cons_zero, List.set_cons_succ]
              refine held_call 5 (some 51) 68 [(.tmp 46), (.tmp 50)] #[27, 3] #[.agg #[vn, vl, vr, vb], .int .i64 x] (by rfl) (by rfl) (by kernel_rfl) Try.func68 (by rfl) (by rfl) ?_
              refine (HC2.out x false _ HMod.out HBvod.out HOx.out).mono ?_
              rintro e w1 ⟨rfl, hb1⟩
              have hbb1 : Below wo.heap.size wo w1 := (Below.refl wo.heap.size wo).drew.trans hb1
              have hc1 : w1.cell? (ad.add m) = some (.int .i64 x) := (hbb1.cell (by rw [block_of_add]; exact hab)).trans hc
              have HB1 := Lib.hid (HBo.out.trans (hbb1.mono hszo))
              have HW1 := Lib.hid (HWo.out.trans (hbb1.mono HWo.out.size))
              have hsz1 : wb.heap.size ≤ w1.heap.size := Nat.le_trans hszo hbb1.size
              have HX01 := Lib.hid (HX0o.out.below hbb1 (Nat.lt_of_lt_of_le hxx0 hszo))
              have HM1 := Lib.hid (HMo.out.now hbb1)
              have HR1 := Lib.hid (HRo.out.now hbb1)
              have HBv1 := Lib.hid (HBvo.out.now hbb1)
              have HRv1 := Lib.hid (HRvo.out.now hbb1)
              have hH1 : (fun W => W.cell? (ad.add m) = some (.int .i64 x) ∧ Blk W w.heap.size 27 #[vn, vl, vr, vb]) w1 := ⟨hc1, HX01.out⟩
              refine ⟨_, rfl, hH1, ?_⟩
              clear hb1 hbb1
              try simp only [Act.put, List.setIfInBounds_toArray, List.set_cons_zero, List.set_cons_succ]
              refine held_run 6 (some 52) (.unOp .not 4 (.tmp 51)) ?v12_102_109 (by rfl) (by kernel_rfl) (by kernel_rfl) (by kernel_rfl) (fun _ _ _ h => h) (fun o ho w hS => ?y12_102_109) (by assumption) ?r12_102_109
              case y12_102_109 => (try dsimp only at hS); unfold execOp; simp only [ho]; go_simp; try with_reducible rfl
              try simp only [Act.put, List.setIfInBounds_toArray, List.set_cons_zero, List.set_cons_succ]
              refine held_run 7 (some 53) (.move (.tmp 52)) ?v12_102_110 (by rfl) (by kernel_rfl) (by kernel_rfl) (by kernel_rfl) (fun _ _ _ h => h) (fun o ho w hS => ?y12_102_110) (by assumption) ?r12_102_110
              case y12_102_110 => (try dsimp only at hS); unfold execOp; simp only [ho]; go_simp; try with_reducible rfl
              try simp only [Act.put, List.setIfInBounds_toArray, List.set_cons_zero, List.set_cons_succ]
              refine held_load 8 (some 54) 27 (.tmp 2) (by rfl) (by kernel_rfl) (by kernel_rfl) (by kernel_rfl) (w.heap.size) 27 #[vn, vl, vr, vb] (fun _ _ _ h => h) (by rfl) (fun _ h => h.2) _ Try.underlying27 rfl (by kernel_rfl) (by assumption) ?_
              try simp only [Act.put, List.setIfInBounds_toArray, List.set_cons_zero, List.set_cons_succ]
              refine held_run 9 (some 55) (.move (.tmp 1)) ?v12_102_112 (by rfl) (by kernel_rfl) (by kernel_rfl) (by kernel_rfl) (fun _ _ _ h => h) (fun o ho w hS => ?y12_102_112) (by assumption) ?r12_102_112
              case y12_102_112 => (try dsimp only at hS); unfold execOp; simp only [ho]; go_simp; try with_reducible rfl
              try simp only [Act.put, List.setIfInBounds_toArray, List.set_cons_zero, List.set_cons_succ]
              refine held_run 10 (some 56) (.move (.tmp 1)) ?v12_102_113 (by rfl) (by kernel_rfl) (by kernel_rfl) (by kernel_rfl) (fun _ _ _ h => h) (fun o ho w hS => ?y12_102_113) (by assumption) ?r12_102_113
              case y12_102_113 => (try dsimp only at hS); unfold execOp; simp only [ho]; go_simp; try with_reducible rfl
              try simp only [Act.put, List.setIfInBounds_toArray, List.set_cons_zero, List.set_cons_succ]
              refine held_run 11 (some 57) (.move (.tmp 8)) ?v12_102_114 (by rfl) (by kernel_rfl) (by kernel_rfl) (by kernel_rfl) (fun _ _ _ h => h) (fun o ho w hS => ?y12_102_114) (by assumption) ?r12_102_114
              case y12_102_114 => (try dsimp only at hS); unfold execOp; simp only [ho]; go_simp; try with_reducible rfl
              try simp only [Act.put, List.setIfInBounds_toArray, List.set_cons_zero, List.set_cons_succ]
              refine held_run 12 (some 58) (.indexAddr 25 (.tmp 56) (.tmp 57)) ?v12_102_115 (by rfl) (by kernel_rfl) (by kernel_rfl) (by kernel_rfl) (fun _ _ _ h => h) (fun o ho w hS => ?y12_102_115) (by assumption) ?r12_102_115
              case y12_102_115 => (try dsimp only at hS); unfold execOp; simp only [ho]; go_simp; try with_reducible rfl
              try simp only [Act.put, List.setIfInBounds_toArray, List.set_cons_zero, List.set_cons_succ]
              refine held_run 13 (some 59) (.load 3 (.tmp 58)) ?v12_102_116 (by rfl) (by kernel_rfl) (by kernel_rfl) (by kernel_rfl) (fun _ _ _ h => h) (fun o ho w hS => ?y12_102_116) (by assumption) ?r12_102_116
              case y12_102_116 => (try dsimp only at hS); unfold execOp; simp only [ho]; go_simp; try with_reducible rfl
              try simp only [Act.put, List.setIfInBounds_toArray, List.set_cons_zero, List.set_cons_succ]
              refine held_call 14 (some 60) 69 [(.tmp 54), (.tmp 55), (.tmp 59)] #[27, 25, 3] #[.agg #[vn, vl, vr, vb], .slice (some ad) k c1, .int .i64 x] (by rfl) (by rfl) (by kernel_rfl) Try.func69 (by rfl) (by rfl) ?_
              refine (HC3.out x lx _ HM1.out HRv1.out HLx.out).mono ?_
              rintro e w2 ⟨rfl, hb2⟩
              have hc2 : w2.cell? (ad.add m) = some (.int .i64 x) := (hb2.cell (show (ad.add m).block < w1.heap.size by rw [block_of_add]; have := HB1.out.size; have := World.block_lt_of_cell? w1 _ hc1; rwa [block_of_add] at this)).trans hc1
              have HB2 := Lib.hid (HB1.out.trans (hb2.mono hsz1))
              have HW2 := Lib.hid (HW1.out.trans (hb2.mono HW1.out.size))
              have hsz2 : wb.heap.size ≤ w2.heap.size := Nat.le_trans hsz1 hb2.size
              have HX02 := Lib.hid (HX01.out.below hb2 (Nat.lt_of_lt_of_le hxx0 hsz1))
              have HM2 := Lib.hid (HM1.out.now hb2)
              have HR2 := Lib.hid (HR1.out.now hb2)
              have HBv2 := Lib.hid (HBv1.out.now hb2)
              have HRv2 := Lib.hid (HRv1.out.now hb2)
              have hH2 : (fun W => W.cell? (ad.add m) = some (.int .i64 x) ∧ Blk W w.heap.size 27 #[vn, vl, vr, vb]) w2 := ⟨hc2, HX02.out⟩
              refine ⟨_, rfl, hH2, ?_⟩
              clear hb2
              try simp only [Act.put, List.setIfInBounds_toArray, List.set_cons_zero, List.set_cons_succ]
              refine held_run 15 (some 61) (.binOp .lss 3 (.tmp 60) (.const (.int .i64 0)) 3) ?v12_102_118 (by rfl) (by kernel_rfl) (by kernel_rfl) (by kernel_rfl) (fun _ _ _ h => h) (fun o ho w hS => ?y12_102_118) (by assumption) ?r12_102_118
              case y12_102_118 => (try dsimp only at hS); unfold execOp; simp only [ho]; go_simp; try with_reducible rfl
              try simp only [Act.put, List.setIfInBounds_toArray, List.set_cons_zero, List.set_cons_succ]
              refine held_run 16 (some 62) (.pick (.tmp 53) (.tmp 61) (.const (Value.bool false))) ?v12_102_119 (by rfl) (by kernel_rfl) (by kernel_rfl) (by kernel_rfl) (fun _ _ _ h => h) (fun o ho w hS => ?y12_102_119) (by assumption) ?r12_102_119
              case y12_102_119 => (try dsimp only at hS); unfold execOp; simp only [ho]; go_simp; try with_reducible rfl
              try simp only [Act.put, List.setIfInBounds_toArray, List.set_cons_zero, List.set_cons_succ]
              refine wpAnyH_done (by kernel_rfl) ?_ _
              go_wp2_with fail
              go_roundw
              case rel => exact ⟨m + 1, by omega, by go_num, HGo.out, HB2.out⟩
              case measure => simp [intOf]; omega
        · obtain rfl : m = k := by omega
          have HZ : Hid (r = 0) := hide (by have h := HF.out; rw [Nat.sub_self] at h; exact (H2.out HF1.out).trans h)
          go_wp2_with fail
          go_ret
          exact ⟨ret_i HZ.out.symm, HWo.out⟩
end Go.Proofs.Yticoeibccdplaaa
