/-
  below, possible, ready and swept of chapter 56, walked.
-/
import Derived.Test.YticoeibccdplaaaSwpB
import Derived.Test.YticoeibccdplaaaSwpP
namespace Go.Proofs.Yticoeibccdplaaa
open Go.RowKit

theorem all_at (g : Int → Bool) (l : List Int) (k : Nat) (h : k < l.length) : (l.drop k).all g = (g (l.getD k 0) && (l.drop (k + 1)).all g) := by
  rw [drop_at l k h]
  rfl
theorem filter_at (g : Int → Bool) (l : List Int) (k : Nat) (h : k < l.length) : (l.take (k + 1)).filter g = (l.take k).filter g ++ (if g (l.getD k 0) = true then [l.getD k 0] else []) := by
  rw [take_at l k h, List.filter_append]
  congr 1
  by_cases hg : g (l.getD k 0) = true
  · rw [if_pos hg]; simp only [List.filter_cons, hg, if_true, List.filter_nil]
  · rw [if_neg hg]; simp only [List.filter_cons, hg, List.filter_nil]; rfl
theorem filter_take_le (g : Int → Bool) (l : List Int) (k : Nat) : ((l.take k).filter g).length ≤ k := Nat.le_trans (List.length_filter_le _ _) (by rw [List.length_take]; omega)
set_option maxRecDepth 100000 in
set_option maxHeartbeats 4000000 in
theorem belowF_any (vn vl vr vb : Value) (rs : List Rn) (run x : Int) (g1 g2 : Nat) (w : World) (hm : StrV Rn.cells 7 w w.heap.size vr rs) (h1 : Blk w g1 27 #[vn, vl, vr, vb]) (h2 : Blk w g2 3 #[.int .i64 run]) :
    Calls Try.prog 65 #[.int .i64 x, .pointer (some ⟨g1, 0, none⟩), .pointer (some ⟨g2, 0, none⟩)] w fun e w' => e = .returned (.bool (befP rs run x)) ∧ Below w.heap.size w w' := by
  have HC := Lib.hid (before_any vn vl vr vb rs run x w hm)
  have HX := Lib.hid h1
  have hy : w.cell? ⟨g2, 0, none⟩ = some (.int .i64 run) := h2.cell 0
  clear hm h1 h2
  generalize befP rs run x = r at *
  go_enter Try.func65, Try.ntmps65
  go_wp2_with
    (refine wpList_load_g 27 (.tmp 1) rfl rfl g1 rfl _ _ HX.out _ Try.underlying27 rfl (by kernel_rfl) ?_)
  with_reducible refine HC.out.mono ?_
  rintro e w1 ⟨rfl, hb⟩
  go_wp2_with fail
  go_ret
  exact ⟨rfl, hb⟩

set_option maxRecDepth 100000 in
set_option maxHeartbeats 4000000 in
theorem indexF_any (vn vl vr vb v1 : Value) (rs : List Rn) (runs : List Int) (run : Int) (g1 g2 : Nat) (w : World) (hm : StrV Rn.cells 7 w w.heap.size vr rs) (hr : RowV w w.heap.size v1 runs) (h1 : Blk w g1 27 #[vn, vl, vr, vb]) (h2 : Blk w g2 3 #[.int .i64 run]) :
    Calls Try.prog 64 #[v1, .func (.func 65) #[] #[.pointer (some ⟨g1, 0, none⟩), .pointer (some ⟨g2, 0, none⟩)]] w fun e w' => e = .returned (.int .i64 (lowI (befP rs) runs run)) ∧ Below w.heap.size w w' := by
  obtain ⟨A, n, c, rfl, HL, h3, h4, hr⟩ := hr.nam
  have HR := Lib.hid hr
  have HM := Lib.hid hm
  have HX := Lib.hid h1
  have HY := Lib.hid h2
  have hx := h1.lt
  have hy := h2.lt
  have hn : n ≤ maxLen := Nat.le_trans h3 h4
  unfold maxLen at hn
  have HC : Hid (∀ (x : Int) (W : World), StrV Rn.cells 7 W W.heap.size vr rs → Blk W g1 27 #[vn, vl, vr, vb] → Blk W g2 3 #[.int .i64 run] → Calls Try.prog 65 #[.int .i64 x, .pointer (some ⟨g1, 0, none⟩), .pointer (some ⟨g2, 0, none⟩)] W fun e w' => e = .returned (.bool (befP rs run x)) ∧ Below W.heap.size W w') := fun x W q1 q2 q3 => belowF_any vn vl vr vb rs run x g1 g2 W q1 q2 q3
  clear hm hr h1 h2 h3 h4
  unfold lowI
  generalize befP rs run = f at *
  obtain ⟨r, hr⟩ : ∃ r, idxF f runs 0 = r := ⟨_, rfl⟩
  rw [hr]
  have HF0 := Lib.hid hr
  clear hr
  go_enter Try.func64, Try.ntmps64
  go_wp2_with fail
  go_loopw [8] (fun v wr => ∃ k : Nat, k ≤ n ∧ v = .int .i64 k ∧ r = idxF f (runs.drop k) k ∧ Below w.heap.size w wr) (fun v _ => n - (intOf v).toNat)
  case atStart => exact ⟨0, by omega, rfl, HF0.out.symm, Below.refl _ _⟩
  case round =>
    obtain ⟨k, hk, rfl, hF, hbr⟩ := hrel
    obtain ⟨wo, rfl⟩ : ∃ wo : World, wo = wr := ⟨_, rfl⟩
    have HF := Lib.hid hF
    have HB := Lib.hid hbr
    have HMo := Lib.hid (HM.out.now hbr)
    have HRo := Lib.hid (HR.out.now hbr)
    have HXo := Lib.hid (HX.out.below hbr hx)
    have HYo := Lib.hid (HY.out.below hbr hy)
    clear hF hbr
    by_cases hlt : k < n
    · obtain ⟨ad, rfl, _, hc⟩ := HRo.out.int hlt
      have HYes : Hid (f (runs.getD k 0) = true → r = (k : Int)) := fun h => HF.out.trans (idxF_yes (by rw [HL.out]; exact hlt) h)
      have HNo : Hid (f (runs.getD k 0) = false → r = idxF f (runs.drop (k + 1)) (k + 1)) := fun h => HF.out.trans (idxF_no (by rw [HL.out]; exact hlt) h)
      generalize runs.getD k 0 = x at *
      go_wp2_with fail
      with_reducible refine (HC.out x _ HMo.out HXo.out HYo.out).mono ?_
      rintro e w1 ⟨rfl, hb1⟩
      have HB1 := Lib.hid (HB.out.trans (hb1.mono HB.out.size))
      clear hb1
      cases hq : f x with
      | true =>
        have HF1 := Lib.hid (HYes.out hq)
        go_wp2_with fail
        go_ret
        exact ⟨ret_i HF1.out.symm, HB1.out⟩
      | false =>
        have HF1 := Lib.hid (HNo.out hq)
        go_wp2_with fail
        go_roundw
        case rel => exact ⟨k + 1, by omega, by go_num, HF1.out, HB1.out⟩
        case measure => simp [intOf]; omega
    · obtain rfl : k = n := by omega
      have HF1 : Hid (r = -1) := by have h := HF.out; rw [List.drop_of_length_le (by rw [HL.out]; exact Nat.le_refl _)] at h; exact hide h
      go_wp2_with fail
      go_ret
      exact ⟨ret_i HF1.out.symm, HB.out⟩

set_option maxRecDepth 100000 in
set_option maxHeartbeats 4000000 in
theorem below_any (vn vl vr vb v1 v2 : Value) (bg : Int) (rs : List Rn) (runs : List Int) (run : Int) (w : World) (hm : StrV Rn.cells 7 w w.heap.size vr rs) (hr : RowV w w.heap.size v1 runs) :
    Calls Try.prog 42 #[.agg #[vn, vl, vr, vb], .agg #[v1, v2, .int .i64 bg], .int .i64 run] w fun e w' => e = .returned (.int .i64 (lowI (befP rs) runs run)) ∧ Below w.heap.size w w' := by
  have HM := Lib.hid hm
  have HR := Lib.hid hr
  clear hm hr
  have HC : Hid (∀ (g1 g2 : Nat) (W : World), StrV Rn.cells 7 W W.heap.size vr rs → RowV W W.heap.size v1 runs → Blk W g1 27 #[vn, vl, vr, vb] → Blk W g2 3 #[.int .i64 run] → Calls Try.prog 64 #[v1, .func (.func 65) #[] #[.pointer (some ⟨g1, 0, none⟩), .pointer (some ⟨g2, 0, none⟩)]] W fun e w' => e = .returned (.int .i64 (lowI (befP rs) runs run)) ∧ Below W.heap.size W w') := fun g1 g2 W q1 q2 q3 q4 => indexF_any vn vl vr vb v1 rs runs run g1 g2 W q1 q2 q3 q4
  generalize lowI (befP rs) runs run = r at *
  go_enter Try.func42, Try.ntmps42
  go_wp2_with fail
  have HBwz0 := (Blk.new w 27 #[vn, vl, vr, vb])
  have HLwz0 := (below_new w (.cells #[vn, vl, vr, vb] 27))
  have hswz0 : (w.alloc (.cells #[vn, vl, vr, vb] 27)).heap.size = w.heap.size + 1 := by simp
  generalize w.alloc (.cells #[vn, vl, vr, vb] 27) = wz0 at HBwz0 HLwz0 hswz0 ⊢
  replace HBwz0 := Lib.hid HBwz0
  replace HLwz0 := Lib.hid HLwz0
  have hlwz0 : w.heap.size < wz0.heap.size := by omega
  replace hswz0 := Lib.hid hswz0
  have HBwz1 := (Blk.new wz0 30 #[v1, v2, .int .i64 bg])
  have HLwz1 := (below_new wz0 (.cells #[v1, v2, .int .i64 bg] 30))
  have hswz1 : (wz0.alloc (.cells #[v1, v2, .int .i64 bg] 30)).heap.size = wz0.heap.size + 1 := by simp
  generalize wz0.alloc (.cells #[v1, v2, .int .i64 bg] 30) = wz1 at HBwz1 HLwz1 hswz1 ⊢
  replace HBwz1 := Lib.hid HBwz1
  replace HLwz1 := Lib.hid HLwz1
  have hlwz1 : wz0.heap.size < wz1.heap.size := by omega
  replace hswz1 := Lib.hid hswz1
  have HBwb := (Blk.new wz1 3 #[.int .i64 run])
  have HLwb := (below_new wz1 (.cells #[.int .i64 run] 3))
  have hswb : (wz1.alloc (.cells #[.int .i64 run] 3)).heap.size = wz1.heap.size + 1 := by simp
  generalize wz1.alloc (.cells #[.int .i64 run] 3) = wb at HBwb HLwb hswb ⊢
  replace HBwb := Lib.hid HBwb
  replace HLwb := Lib.hid HLwb
  have hlwb : wz1.heap.size < wb.heap.size := by omega
  replace hswb := Lib.hid hswb
  have HQ1 := Lib.hid (HLwz0.out.trans (HLwz1.out.mono HLwz0.out.size))
  have HQ2 := Lib.hid (HQ1.out.trans (HLwb.out.mono HQ1.out.size))
  have HWb := Lib.hid (HQ2.out)
  have hl0 : w.heap.size ≤ wb.heap.size := HWb.out.size
  have HBb : Hid (Below wb.heap.size wb wb) := hide (Below.refl _ _)
  have hszb : wb.heap.size ≤ wb.heap.size := Nat.le_refl _
  have HZ0_1 := Lib.hid (HBwz0.out.below HLwz1.out hlwz0)
  have hz0_1 : w.heap.size < wz1.heap.size := HZ0_1.out.lt
  have HZ0_2 := Lib.hid (HZ0_1.out.below HLwb.out hz0_1)
  have hz0_2 : w.heap.size < wb.heap.size := HZ0_2.out.lt
  have HX0b : Hid (Blk wb w.heap.size 27 #[vn, vl, vr, vb]) := hide HZ0_2.out
  have hx0 : w.heap.size < wb.heap.size := HX0b.out.lt
  have HZ1_2 := Lib.hid (HBwz1.out.below HLwb.out hlwz1)
  have hz1_2 : wz0.heap.size < wb.heap.size := HZ1_2.out.lt
  have HX1b : Hid (Blk wb (w.heap.size + 1) 30 #[v1, v2, .int .i64 bg]) := hide (by have h := HZ1_2.out; rw [show wz0.heap.size = w.heap.size + 1 from by have := hswz0.out; omega] at h; exact h)
  have hx1 : (w.heap.size + 1) < wb.heap.size := HX1b.out.lt
  have HX2b : Hid (Blk wb (w.heap.size + 2) 3 #[.int .i64 run]) := hide (by have h := HBwb.out; rw [show wz1.heap.size = w.heap.size + 2 from by have := hswz0.out; have := hswz1.out; omega] at h; exact h)
  have hx2 : (w.heap.size + 2) < wb.heap.size := HX2b.out.lt
  clear HBwz0 HLwz0 hswz0 hlwz0
  clear HBwz1 HLwz1 hswz1 hlwz1
  clear HBwb HLwb hswb hlwb
  have HMb := Lib.hid (HM.out.now HWb.out)
  have HRb := Lib.hid (HR.out.now HWb.out)
  with_reducible refine (HC.out _ _ _ HMb.out HRb.out HX0b.out HX2b.out).mono ?_
  rintro e w1 ⟨rfl, hb1⟩
  have HW1 := Lib.hid (HWb.out.trans (hb1.mono HWb.out.size))
  go_wp2_with fail
  go_ret
  exact ⟨rfl, HW1.out⟩

set_option maxRecDepth 100000 in
set_option maxHeartbeats 4000000 in
theorem possible_any (vn vl vr vb v1 v2 vd : Value) (bg : Int) (rs : List Rn) (runs done : List Int) (run : Int) (w : World) (hm : StrV Rn.cells 7 w w.heap.size vr rs) (hr : RowV w w.heap.size v1 runs) (hd : RowV w w.heap.size vd done) :
    Calls Try.prog 67 #[.agg #[vn, vl, vr, vb], .agg #[v1, v2, .int .i64 bg], vd, .int .i64 run] w fun e w' => e = .returned (.bool (possB (befP rs) runs done run)) ∧ Below w.heap.size w w' := by
  obtain ⟨A, n, c, rfl, HL, h3, h4, hr⟩ := hr.nam
  obtain ⟨Ad, nd, cd, rfl, HLd, h5, h6, hd⟩ := hd.nam
  have HR := Lib.hid hr
  have HD := Lib.hid hd
  have HM := Lib.hid hm
  have hn : n ≤ maxLen := Nat.le_trans h3 h4
  have hnd : nd ≤ maxLen := Nat.le_trans h5 h6
  unfold maxLen at hn
  have HC : Hid (∀ (x : Int) (W : World), StrV Rn.cells 7 W W.heap.size vr rs → Calls Try.prog 66 #[.agg #[vn, vl, vr, vb], .int .i64 x, .int .i64 run] W fun e w' => e = .returned (.bool (befP rs x run)) ∧ Below W.heap.size W w') := fun x W q1 => before_any vn vl vr vb rs x run W q1
  clear hm hr hd h3 h4 h5 h6
  unfold possB
  generalize befP rs = bef at *
  obtain ⟨g, hg⟩ : ∃ g : Int → Bool, g = fun x => !(bef x run && !done.contains x) := ⟨_, rfl⟩
  rw [← hg]
  have HG : Hid (∀ x, g x = !(bef x run && !done.contains x)) := fun x => by rw [hg]
  clear hg
  obtain ⟨r, hr⟩ : ∃ r, runs.all g = r := ⟨_, rfl⟩
  rw [hr]
  have HF0 := Lib.hid hr
  clear hr
  go_enter Try.func67, Try.ntmps67
  go_wp2_with fail
  have HBwz0 := (Blk.new w 27 #[vn, vl, vr, vb])
  have HLwz0 := (below_new w (.cells #[vn, vl, vr, vb] 27))
  have hswz0 : (w.alloc (.cells #[vn, vl, vr, vb] 27)).heap.size = w.heap.size + 1 := by simp
  generalize w.alloc (.cells #[vn, vl, vr, vb] 27) = wz0 at HBwz0 HLwz0 hswz0 ⊢
  replace HBwz0 := Lib.hid HBwz0
  replace HLwz0 := Lib.hid HLwz0
  have hlwz0 : w.heap.size < wz0.heap.size := by omega
  replace hswz0 := Lib.hid hswz0
  have HBwb := (Blk.new wz0 30 #[.slice A n c, v2, .int .i64 bg])
  have HLwb := (below_new wz0 (.cells #[.slice A n c, v2, .int .i64 bg] 30))
  have hswb : (wz0.alloc (.cells #[.slice A n c, v2, .int .i64 bg] 30)).heap.size = wz0.heap.size + 1 := by simp
  generalize wz0.alloc (.cells #[.slice A n c, v2, .int .i64 bg] 30) = wb at HBwb HLwb hswb ⊢
  replace HBwb := Lib.hid HBwb
  replace HLwb := Lib.hid HLwb
  have hlwb : wz0.heap.size < wb.heap.size := by omega
  replace hswb := Lib.hid hswb
  have HQ1 := Lib.hid (HLwz0.out.trans (HLwb.out.mono HLwz0.out.size))
  have HWb := Lib.hid (HQ1.out)
  have hl0 : w.heap.size ≤ wb.heap.size := HWb.out.size
  have HBb : Hid (Below wb.heap.size wb wb) := hide (Below.refl _ _)
  have hszb : wb.heap.size ≤ wb.heap.size := Nat.le_refl _
  have HZ0_1 := Lib.hid (HBwz0.out.below HLwb.out hlwz0)
  have hz0_1 : w.heap.size < wb.heap.size := HZ0_1.out.lt
  have HX0b : Hid (Blk wb w.heap.size 27 #[vn, vl, vr, vb]) := hide HZ0_1.out
  have hx0 : w.heap.size < wb.heap.size := HX0b.out.lt
  have HX1b : Hid (Blk wb (w.heap.size + 1) 30 #[.slice A n c, v2, .int .i64 bg]) := hide (by have h := HBwb.out; rw [show wz0.heap.size = w.heap.size + 1 from by have := hswz0.out; omega] at h; exact h)
  have hx1 : (w.heap.size + 1) < wb.heap.size := HX1b.out.lt
  clear HBwz0 HLwz0 hswz0 hlwz0
  clear HBwb HLwb hswb hlwb
  have HMb := Lib.hid (HM.out.now HWb.out)
  have HRb := Lib.hid (HR.out.now HWb.out)
  have HDb := Lib.hid (HD.out.now HWb.out)
  go_loopw [14] (fun v wr => ∃ k : Nat, k ≤ n ∧ v = .int .i64 k ∧ r = (runs.drop k).all g ∧ Below wb.heap.size wb wr) (fun v _ => n - (intOf v).toNat)
  case atStart => exact ⟨0, by omega, rfl, HF0.out.symm, Below.refl _ _⟩
  case round =>
    obtain ⟨k, hk, rfl, hF, hbr⟩ := hrel
    have HF := Lib.hid hF
    clear hF
    obtain ⟨wo, rfl⟩ : ∃ wo : World, wo = wr := ⟨_, rfl⟩
    have HBo := Lib.hid (HBb.out.trans (hbr.mono hszb))
    have HWo := Lib.hid (HWb.out.trans (hbr.mono HWb.out.size))
    have hszo : wb.heap.size ≤ wo.heap.size := Nat.le_trans hszb hbr.size
    have HX0o := Lib.hid (HX0b.out.below hbr (Nat.lt_of_lt_of_le hx0 hszb))
    have HX1o := Lib.hid (HX1b.out.below hbr (Nat.lt_of_lt_of_le hx1 hszb))
    have HMo := Lib.hid (HMb.out.now hbr)
    have HRo := Lib.hid (HRb.out.now hbr)
    have HDo := Lib.hid (HDb.out.now hbr)
    clear hbr
    by_cases hlt : k < n
    · obtain ⟨ad, rfl, _, hc⟩ := HRo.out.int hlt
      have HS := Lib.hid (HF.out.trans (all_at g runs k (by rw [HL.out]; exact hlt)))
      generalize runs.getD k 0 = x at *
      go_wp2_with
        (first
         | (refine wpList_load_g 27 (.tmp 4) rfl rfl w.heap.size rfl _ _ HX0o.out _ Try.underlying27 rfl (by kernel_rfl) ?_))
      with_reducible refine (HC.out x _ HMo.out).mono ?_
      rintro e w1 ⟨rfl, hb1⟩
      have HB1 := Lib.hid (HBo.out.trans (hb1.mono hszo))
      have HW1 := Lib.hid (HWo.out.trans (hb1.mono HWo.out.size))
      have hsz1 : wb.heap.size ≤ w1.heap.size := Nat.le_trans hszo hb1.size
      have HX01 := Lib.hid (HX0o.out.below hb1 (Nat.lt_of_lt_of_le hx0 hszo))
      have HX11 := Lib.hid (HX1o.out.below hb1 (Nat.lt_of_lt_of_le hx1 hszo))
      have HM1 := Lib.hid (HMo.out.now hb1)
      have HR1 := Lib.hid (HRo.out.now hb1)
      have HD1 := Lib.hid (HDo.out.now hb1)
      clear hb1
      have HGx := Lib.hid (HG.out x)
      cases hq : bef x run with
      | false =>
        have HF1 : Hid (r = (runs.drop (k + 1)).all g) := hide (HS.out.trans (by rw [HGx.out, hq]; rfl))
        go_wp2_with fail
        go_roundw
        case rel => exact ⟨k + 1, by omega, by go_num, HF1.out, HB1.out⟩
        case measure => simp [intOf]; omega
      | true =>
        cases hd : done.contains x with
        | true =>
          have HF1 : Hid (r = (runs.drop (k + 1)).all g) := hide (HS.out.trans (by rw [HGx.out, hq, hd]; rfl))
          go_wp2_with fail
          with_reducible refine (contains_any Ad nd cd _ done x true _ HD1.out hnd hd).mono ?_
          rintro e w' ⟨rfl, rfl⟩
          go_wp2_with fail
          go_roundw
          case rel => exact ⟨k + 1, by omega, by go_num, HF1.out, HB1.out⟩
          case measure => simp [intOf]; omega
        | false =>
          have HF1 : Hid (r = false) := hide (HS.out.trans (by rw [HGx.out, hq, hd]; rfl))
          go_wp2_with fail
          with_reducible refine (contains_any Ad nd cd _ done x false _ HD1.out hnd hd).mono ?_
          rintro e w' ⟨rfl, rfl⟩
          go_wp2_with fail
          go_ret
          exact ⟨ret_b HF1.out.symm, HW1.out⟩
    · obtain rfl : k = n := by omega
      have HF1 : Hid (r = true) := by have h := HF.out; rw [List.drop_of_length_le (by rw [HL.out]; exact Nat.le_refl _)] at h; exact hide h
      go_wp2_with fail
      go_ret
      exact ⟨ret_b HF1.out.symm, HWo.out⟩

set_option maxRecDepth 100000 in
set_option maxHeartbeats 4000000 in
theorem ready_any (vn vl vr vb v1 v2 vd : Value) (bg : Int) (rs : List Rn) (runs done : List Int) (w : World) (hm : StrV Rn.cells 7 w w.heap.size vr rs) (hr : RowV w w.heap.size v1 runs) (hd : RowV w w.heap.size vd done) (hlen : runs.length ≤ 1000) :
    Calls Try.prog 48 #[.agg #[vn, vl, vr, vb], .agg #[v1, v2, .int .i64 bg], vd] w fun e w' => ∃ v, e = .returned v ∧ OwnI w' w.heap.size v (readyL (befP rs) runs done) ∧ Below w.heap.size w w' := by
  have hrv := hr
  have hdv := hd
  obtain ⟨A, n, c, rfl, HL, h3, h4, hr⟩ := hr.nam
  obtain ⟨Ad, nd, cd, rfl, HLd, h5, h6, hd⟩ := hd.nam
  have HR := Lib.hid hr
  have HD := Lib.hid hd
  have HM := Lib.hid hm
  have HRv := Lib.hid hrv
  have HDv := Lib.hid hdv
  have hn : n ≤ 1000 := by rw [← HL.out]; exact hlen
  have hnd : nd ≤ maxLen := Nat.le_trans h5 h6
  have HC : Hid (∀ (x : Int) (W : World), StrV Rn.cells 7 W W.heap.size vr rs → RowV W W.heap.size (.slice A n c) runs → RowV W W.heap.size (.slice Ad nd cd) done → Calls Try.prog 67 #[.agg #[vn, vl, vr, vb], .agg #[.slice A n c, v2, .int .i64 bg], .slice Ad nd cd, .int .i64 x] W fun e w' => e = .returned (.bool (possB (befP rs) runs done x)) ∧ Below W.heap.size W w') := fun x W q1 q2 q3 => possible_any vn vl vr vb _ v2 _ bg rs runs done x W q1 q2 q3
  clear hm hr hd h3 h4 h5 h6 hrv hdv hlen
  unfold readyL
  generalize possB (befP rs) runs done = poss at *
  obtain ⟨g, hg⟩ : ∃ g : Int → Bool, g = fun x => !done.contains x && poss x := ⟨_, rfl⟩
  rw [← hg]
  have HG : Hid (∀ x, g x = (!done.contains x && poss x)) := fun x => by rw [hg]
  clear hg
  go_enter Try.func48, Try.ntmps48
  go_wp2_with fail
  have HBwz0 := (Blk.new w 27 #[vn, vl, vr, vb])
  have HLwz0 := (below_new w (.cells #[vn, vl, vr, vb] 27))
  have hswz0 : (w.alloc (.cells #[vn, vl, vr, vb] 27)).heap.size = w.heap.size + 1 := by simp
  generalize w.alloc (.cells #[vn, vl, vr, vb] 27) = wz0 at HBwz0 HLwz0 hswz0 ⊢
  replace HBwz0 := Lib.hid HBwz0
  replace HLwz0 := Lib.hid HLwz0
  have hlwz0 : w.heap.size < wz0.heap.size := by omega
  replace hswz0 := Lib.hid hswz0
  have HBwb := (Blk.new wz0 30 #[.slice A n c, v2, .int .i64 bg])
  have HLwb := (below_new wz0 (.cells #[.slice A n c, v2, .int .i64 bg] 30))
  have hswb : (wz0.alloc (.cells #[.slice A n c, v2, .int .i64 bg] 30)).heap.size = wz0.heap.size + 1 := by simp
  generalize wz0.alloc (.cells #[.slice A n c, v2, .int .i64 bg] 30) = wb at HBwb HLwb hswb ⊢
  replace HBwb := Lib.hid HBwb
  replace HLwb := Lib.hid HLwb
  have hlwb : wz0.heap.size < wb.heap.size := by omega
  replace hswb := Lib.hid hswb
  have HQ1 := Lib.hid (HLwz0.out.trans (HLwb.out.mono HLwz0.out.size))
  have HWb := Lib.hid (HQ1.out)
  have hl0 : w.heap.size ≤ wb.heap.size := HWb.out.size
  have HBb : Hid (Below wb.heap.size wb wb) := hide (Below.refl _ _)
  have hszb : wb.heap.size ≤ wb.heap.size := Nat.le_refl _
  have HZ0_1 := Lib.hid (HBwz0.out.below HLwb.out hlwz0)
  have hz0_1 : w.heap.size < wb.heap.size := HZ0_1.out.lt
  have HX0b : Hid (Blk wb w.heap.size 27 #[vn, vl, vr, vb]) := hide HZ0_1.out
  have hx0 : w.heap.size < wb.heap.size := HX0b.out.lt
  have HX1b : Hid (Blk wb (w.heap.size + 1) 30 #[.slice A n c, v2, .int .i64 bg]) := hide (by have h := HBwb.out; rw [show wz0.heap.size = w.heap.size + 1 from by have := hswz0.out; omega] at h; exact h)
  have hx1 : (w.heap.size + 1) < wb.heap.size := HX1b.out.lt
  clear HBwz0 HLwz0 hswz0 hlwz0
  clear HBwb HLwb hswb hlwb
  have HMb := Lib.hid (HM.out.now HWb.out)
  have HRb := Lib.hid (HR.out.now HWb.out)
  have HDb := Lib.hid (HD.out.now HWb.out)
  have HRvb := Lib.hid (HRv.out.now HWb.out)
  have HDvb := Lib.hid (HDv.out.now HWb.out)
  go_loopw [7, 13] (fun v i wr => ∃ k : Nat, k ≤ n ∧ i = .int .i64 k ∧ OwnI wr wb.heap.size v ((runs.take k).filter g) ∧ Below wb.heap.size wb wr) (fun _ i _ => n - (intOf i).toNat)
  case atStart => exact ⟨0, by omega, rfl, OwnI.nil _ _, Below.refl _ _⟩
  case round =>
    obtain ⟨k, hk, rfl, hO, hbr⟩ := hrel
    have HOw := Lib.hid hO
    obtain ⟨Av, nv, cv, rfl, HLv, hv1, hv2, _⟩ := hO.nam
    have hnv : nv ≤ k := by rw [← HLv.out]; exact filter_take_le g runs k
    clear hO
    obtain ⟨wo, rfl⟩ : ∃ wo : World, wo = wr := ⟨_, rfl⟩
    have HBo := Lib.hid (HBb.out.trans (hbr.mono hszb))
    have HWo := Lib.hid (HWb.out.trans (hbr.mono HWb.out.size))
    have hszo : wb.heap.size ≤ wo.heap.size := Nat.le_trans hszb hbr.size
    have HX0o := Lib.hid (HX0b.out.below hbr (Nat.lt_of_lt_of_le hx0 hszb))
    have HX1o := Lib.hid (HX1b.out.below hbr (Nat.lt_of_lt_of_le hx1 hszb))
    have HMo := Lib.hid (HMb.out.now hbr)
    have HRo := Lib.hid (HRb.out.now hbr)
    have HDo := Lib.hid (HDb.out.now hbr)
    have HRvo := Lib.hid (HRvb.out.now hbr)
    have HDvo := Lib.hid (HDvb.out.now hbr)
    clear hbr
    by_cases hlt : k < n
    · obtain ⟨ad, rfl, _, hc⟩ := HRo.out.int hlt
      have HS := Lib.hid (filter_at g runs k (by rw [HL.out]; exact hlt))
      generalize runs.getD k 0 = x at *
      generalize (runs.take k).filter g = T at *
      have HGx := Lib.hid (HG.out x)
      cases hd : done.contains x with
      | true =>
        have HF1 : Hid ((runs.take (k + 1)).filter g = T) := hide (HS.out.trans (by rw [HGx.out, hd]; simp))
        go_wp2_with fail
        with_reducible refine (contains_any _ nd cd _ done x true _ HDo.out hnd hd).mono ?_
        rintro e w' ⟨rfl, rfl⟩
        go_wp2_with fail
        go_roundw
        case rel => exact ⟨k + 1, by omega, by go_num, by rw [HF1.out]; exact HOw.out, HBo.out⟩
        case measure => simp [intOf]; omega
      | false =>
        go_wp2_with fail
        with_reducible refine (contains_any _ nd cd _ done x false _ HDo.out hnd hd).mono ?_
        rintro e w' ⟨rfl, rfl⟩
        go_wp2_with
          (first
           | (refine wpList_load_g 27 (.tmp 3) rfl rfl w.heap.size rfl _ _ HX0o.out _ Try.underlying27 rfl (by kernel_rfl) ?_)
           | (refine wpList_load_g 30 (.tmp 4) rfl rfl (w.heap.size + 1) rfl _ _ HX1o.out _ Try.underlying30 rfl (by kernel_rfl) ?_))
        with_reducible refine (HC.out x _ HMo.out HRvo.out HDvo.out).mono ?_
        rintro e w1 ⟨rfl, hb1⟩
        have HO1 : Hid (OwnI w1 wb.heap.size (.slice Av nv cv) T) := hide (own_below HOw.out hb1 (Nat.le_refl _))
        have HB1 := Lib.hid (HBo.out.trans (hb1.mono hszo))
        have HW1 := Lib.hid (HWo.out.trans (hb1.mono HWo.out.size))
        have hsz1 : wb.heap.size ≤ w1.heap.size := Nat.le_trans hszo hb1.size
        have HX01 := Lib.hid (HX0o.out.below hb1 (Nat.lt_of_lt_of_le hx0 hszo))
        have HX11 := Lib.hid (HX1o.out.below hb1 (Nat.lt_of_lt_of_le hx1 hszo))
        have HM1 := Lib.hid (HMo.out.now hb1)
        have HR1 := Lib.hid (HRo.out.now hb1)
        have HD1 := Lib.hid (HDo.out.now hb1)
        have HRv1 := Lib.hid (HRvo.out.now hb1)
        have HDv1 := Lib.hid (HDvo.out.now hb1)
        clear hb1
        cases hp : poss x with
        | false =>
          have HF1 : Hid ((runs.take (k + 1)).filter g = T) := hide (HS.out.trans (by rw [HGx.out, hd, hp]; simp))
          go_wp2_with fail
          go_roundw
          case rel => exact ⟨k + 1, by omega, by go_num, by rw [HF1.out]; exact HO1.out, HB1.out⟩
          case measure => simp [intOf]; omega
        | true =>
          have HF1 : Hid ((runs.take (k + 1)).filter g = T ++ [x]) := hide (HS.out.trans (by rw [HGx.out, hd, hp]; simp))
          go_wp2_with
            (at_builtin
             refine wpList_app_lit ei_ints rfl (.tmp 28) (.tmp 30) rfl wb.heap.size (.slice Av nv cv) nv (T.map (Value.int .i64)) rfl (HO1.out.row HLv.out) 1 rfl rfl (by simp [Value.oneCell']) (by simp only [maxLen]; omega) (by omega) hsz1 ?_
             intro v2 w2 hown2 hb2 _ _
             have HO2 : Hid (OwnI w2 wb.heap.size v2 (T ++ [x])) := hide (OwnI.mk' hown2 (by rw [List.length_append, HLv.out]; rfl) (by simp))
             have HB2 := Lib.hid (HB1.out.trans hb2)
             clear hown2 hb2)
          go_roundw
          case rel => exact ⟨k + 1, by omega, by go_num, by rw [HF1.out]; exact HO2.out, HB2.out⟩
          case measure => simp [intOf]; omega
    · obtain rfl : k = n := by omega
      rw [List.take_of_length_le (by rw [HL.out]; exact Nat.le_refl _)] at HOw
      go_wp2_with fail
      go_ret
      exact ⟨_, rfl, HOw.out.mono hl0, HWo.out⟩

set_option maxRecDepth 100000 in
set_option maxHeartbeats 4000000 in
theorem swept_any (v1 v2 : Value) (bg : Int) (sw : List Sw) (w : World) (hr : StrV Sw.cells 4 w w.heap.size v2 sw) (hlen : sw.length ≤ 1000) :
    Calls Try.prog 50 #[.agg #[v1, v2, .int .i64 bg]] w fun e w' => ∃ v, e = .returned v ∧ OwnI w' w.heap.size v (sw.map Sw.run) ∧ Below w.heap.size w w' := by
  obtain ⟨A, n, c, rfl, HL, h3, h4, hr⟩ := hr.nam
  have HR := Lib.hid hr
  have hn : n ≤ 1000 := by rw [← HL.out]; exact hlen
  clear hr h3 h4 hlen
  go_enter Try.func50, Try.ntmps50
  go_wp2_with fail
  have HBwb := (Blk.new w 30 #[v1, .slice A n c, .int .i64 bg])
  have HLwb := (below_new w (.cells #[v1, .slice A n c, .int .i64 bg] 30))
  have hswb : (w.alloc (.cells #[v1, .slice A n c, .int .i64 bg] 30)).heap.size = w.heap.size + 1 := by simp
  generalize w.alloc (.cells #[v1, .slice A n c, .int .i64 bg] 30) = wb at HBwb HLwb hswb ⊢
  replace HBwb := Lib.hid HBwb
  replace HLwb := Lib.hid HLwb
  have hlwb : w.heap.size < wb.heap.size := by omega
  replace hswb := Lib.hid hswb
  have HWb := Lib.hid (HLwb.out)
  have hl0 : w.heap.size ≤ wb.heap.size := HWb.out.size
  have HBb : Hid (Below wb.heap.size wb wb) := hide (Below.refl _ _)
  have hszb : wb.heap.size ≤ wb.heap.size := Nat.le_refl _
  have HX0b : Hid (Blk wb w.heap.size 30 #[v1, .slice A n c, .int .i64 bg]) := hide HBwb.out
  have hx0 : w.heap.size < wb.heap.size := HX0b.out.lt
  clear HBwb HLwb hswb hlwb
  have HRb := Lib.hid (HR.out.now HWb.out)
  go_loopw [3, 9] (fun v i wr => ∃ k : Nat, k ≤ n ∧ i = .int .i64 k ∧ OwnI wr wb.heap.size v ((sw.take k).map Sw.run) ∧ Below wb.heap.size wb wr) (fun _ i _ => n - (intOf i).toNat)
  case atStart => exact ⟨0, by omega, rfl, OwnI.nil _ _, Below.refl _ _⟩
  case round =>
    obtain ⟨k, hk, rfl, hO, hbr⟩ := hrel
    have HOw := Lib.hid hO
    obtain ⟨Av, nv, cv, rfl, HLv, hv1, hv2, _⟩ := hO.nam
    have hnv : nv ≤ k := by rw [← HLv.out]; simp; omega
    clear hO
    obtain ⟨wo, rfl⟩ : ∃ wo : World, wo = wr := ⟨_, rfl⟩
    have HBo := Lib.hid (HBb.out.trans (hbr.mono hszb))
    have HWo := Lib.hid (HWb.out.trans (hbr.mono HWb.out.size))
    have hszo : wb.heap.size ≤ wo.heap.size := Nat.le_trans hszb hbr.size
    have HX0o := Lib.hid (HX0b.out.below hbr (Nat.lt_of_lt_of_le hx0 hszb))
    have HRo := Lib.hid (HRb.out.now hbr)
    clear hbr
    by_cases hlt : k < n
    · obtain ⟨ad, rfl, hab, hcs⟩ := strs_at HRo.out (fun _ => rfl) HL.out hlt sw0
      have HS : Hid ((sw.take (k + 1)).map Sw.run = (sw.take k).map Sw.run ++ [(sw.getD k sw0).run]) := hide (by rw [gen_take sw sw0 k (by rw [HL.out]; exact hlt), List.map_append]; rfl)
      generalize sw.getD k sw0 = b at *
      obtain ⟨run, byy, att, fnd⟩ := b
      have HCs : Hid (∀ j u, ([.int .i64 run, .int .i64 byy, .int .i64 att, .int .i64 fnd] : List Value)[j]? = some u → wo.cell? ((ad.add (k * 4)).add j) = some u) := hcs
      clear hcs
      generalize (sw.take k).map Sw.run = T at *
      go_wp2_with
        (first
         | (refine wpList_load_at 39 (.tmp 11) rfl rfl (ad.add (k * 4)) rfl [.int .i64 run, .int .i64 byy, .int .i64 att, .int .i64 fnd] HCs.out _ Try.underlying39 rfl (by kernel_rfl) ?_)
         | (refine wpList_store_blk rfl 39 (.tmp 5) (.tmp 12) rfl wo.heap.size #[.int .i64 run, .int .i64 byy, .int .i64 att, .int .i64 fnd] rfl rfl _ _ (Blk.new wo 39 #[.int .i64 0, .int .i64 0, .int .i64 0, .int .i64 0]) (by kernel_rfl) rfl (by simp [Value.oneCell']) ?_
            intro w1 hx1 hon1
            have hb1 := hon1.below (below_new wo (.cells #[.int .i64 0, .int .i64 0, .int .i64 0, .int .i64 0] 39)) (Nat.le_refl _)
            have HO1 : Hid (OwnI w1 wb.heap.size (.slice Av nv cv) T) := hide (own_below HOw.out hb1 (Nat.le_refl _))
            have HB1 := Lib.hid (HBo.out.trans (hb1.mono hszo))
            have hs1 := HB1.out.size
            have e0 : w1.cell? ⟨wo.heap.size, 0, none⟩ = some (.int .i64 run) := hx1.cell 0
            clear hx1 hon1 hb1)
         | (at_builtin
            refine wpList_app_lit ei_ints rfl (.tmp 13) (.tmp 16) rfl wb.heap.size (.slice Av nv cv) nv (T.map (Value.int .i64)) rfl (HO1.out.row HLv.out) 1 rfl rfl (by simp [Value.oneCell']) (by simp only [maxLen]; omega) (by omega) hs1 ?_
            intro v2 w2 hown2 hb2 _ _
            have HO2 : Hid (OwnI w2 wb.heap.size v2 (T ++ [run])) := hide (OwnI.mk' hown2 (by rw [List.length_append, HLv.out]; rfl) (by simp))
            have HB2 := Lib.hid (HB1.out.trans hb2)
            clear hown2 hb2))
      go_roundw
      case rel => exact ⟨k + 1, by omega, by go_num, by rw [HS.out]; exact HO2.out, HB2.out⟩
      case measure => simp [intOf]; omega
    · obtain rfl : k = n := by omega
      rw [List.take_of_length_le (by rw [HL.out]; exact Nat.le_refl _)] at HOw
      go_wp2_with fail
      go_ret
      exact ⟨_, rfl, HOw.out.mono hl0, HWo.out⟩
end Go.Proofs.Yticoeibccdplaaa
