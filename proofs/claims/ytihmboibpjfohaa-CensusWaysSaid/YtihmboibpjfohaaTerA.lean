/-
  Node of terrain, of the program and of its reference, walked.
-/
import Derived.Test.YtihmboibpjfohaaChecked
import Derived.Test.YtihmboibpjfohaaTerM
import Derived.BigQuiet
import Derived.Deep.Light
import Derived.IntWalk
namespace Go.Proofs.Ytihmboibpjfohaa
open Go.RowKit

set_option maxRecDepth 100000 in
set_option maxHeartbeats 4000000 in
theorem pnode_any (vn vl vr vb : Value) (l : List Nd) (i : Int) (w : World) (hm : StrV Nd.cells 2 w w.heap.size vn l) :
    Calls Try.prog 34 #[.agg #[vn, vl, vr, vb], .int .i64 i] w (NodeR (ndOf l i) (hasN l i) w) := by
  obtain ⟨A, n, c, rfl, HL, h1, h2, hr⟩ := hm.nam
  have HR := Lib.hid hr
  have hn : n ≤ maxLen := Nat.le_trans h1 h2
  unfold maxLen at hn
  clear hm hr h1 h2
  have HA : Hid (∀ g, findN l i = g → ndOf l i = g.getD nd0 ∧ hasN l i = g.isSome) := fun g h => by unfold ndOf hasN; rw [h]; exact ⟨rfl, rfl⟩
  generalize ndOf l i = qq at *
  generalize hasN l i = bb at *
  go_enter Try.func34, Try.ntmps34
  go_wp2_with fail
  have HBwz0 := (Blk.new w 44 #[.slice A n c, vl, vr, vb])
  have HLwz0 := (below_new w (.cells #[.slice A n c, vl, vr, vb] 44))
  have hswz0 : (w.alloc (.cells #[.slice A n c, vl, vr, vb] 44)).heap.size = w.heap.size + 1 := by simp
  generalize w.alloc (.cells #[.slice A n c, vl, vr, vb] 44) = wz0 at HBwz0 HLwz0 hswz0 ⊢
  replace HBwz0 := Lib.hid HBwz0
  replace HLwz0 := Lib.hid HLwz0
  have hlwz0 : w.heap.size < wz0.heap.size := by omega
  replace hswz0 := Lib.hid hswz0
  have HBwb := (Blk.new wz0 63 #[.int .i64 0, .int .i64 0])
  have HLwb := (below_new wz0 (.cells #[.int .i64 0, .int .i64 0] 63))
  have hswb : (wz0.alloc (.cells #[.int .i64 0, .int .i64 0] 63)).heap.size = wz0.heap.size + 1 := by simp
  generalize wz0.alloc (.cells #[.int .i64 0, .int .i64 0] 63) = wb at HBwb HLwb hswb ⊢
  replace HBwb := Lib.hid HBwb
  replace HLwb := Lib.hid HLwb
  have hlwb : wz0.heap.size < wb.heap.size := by omega
  replace hswb := Lib.hid hswb
  have HQ1 := Lib.hid (HLwz0.out.trans (HLwb.out.mono HLwz0.out.size))
  have HWb := Lib.hid (HQ1.out)
  have hl0 : w.heap.size ≤ wb.heap.size := HWb.out.size
  have HBb : Hid (Below wb.heap.size wb wb) := hide (Below.refl _ _)
  have hszb : wb.heap.size ≤ wb.heap.size := Nat.le_refl _
  have HZ0_1 := Lib.hid (HBwz0.out.below HLwb.out hlwz0)
  have hz0_1 : w.heap.size < wb.heap.size := HZ0_1.out.lt
  have HX0b : Hid (Blk wb w.heap.size 44 #[.slice A n c, vl, vr, vb]) := hide HZ0_1.out
  have hxx0 : w.heap.size < wb.heap.size := HX0b.out.lt
  have HX1b : Hid (Blk wb (w.heap.size + 1) 63 #[.int .i64 0, .int .i64 0]) := hide (by have h := HBwb.out; rw [show wz0.heap.size = w.heap.size + 1 from by have := hswz0.out; omega] at h; exact h)
  have hxx1 : (w.heap.size + 1) < wb.heap.size := HX1b.out.lt
  clear HBwz0 HLwz0 hswz0 hlwz0
  clear HBwb HLwb hswb hlwb
  go_loopw [11] (fun v wr => ∃ k : Nat, k ≤ n ∧ v = .int .i64 k ∧ findN l i = findN (l.drop k) i ∧ Below wb.heap.size wb wr) (fun v _ => n - (intOf v).toNat)
  case atStart => exact ⟨0, by omega, rfl, rfl, Below.refl _ _⟩
  case round =>
    obtain ⟨k, hk, rfl, hF, hbr⟩ := hrel
    have HF := Lib.hid hF
    clear hF
    obtain ⟨wo, rfl⟩ : ∃ wo : World, wo = wr := ⟨_, rfl⟩
    have HBo := Lib.hid (HBb.out.trans (hbr.mono hszb))
    have HWo := Lib.hid (HWb.out.trans (hbr.mono HWb.out.size))
    have hszo : wb.heap.size ≤ wo.heap.size := Nat.le_trans hszb hbr.size
    have HX0o := Lib.hid (HX0b.out.below hbr (Nat.lt_of_lt_of_le hxx0 hszb))
    have HX1o := Lib.hid (HX1b.out.below hbr (Nat.lt_of_lt_of_le hxx1 hszb))
    clear hbr
    by_cases hlt : k < n
    · obtain ⟨ad, rfl, hab, hcs⟩ := strs_at (HR.out.below HWo.out) (fun _ => rfl) HL.out hlt nd0
      have HF1 := Lib.hid (HF.out.trans (findN_at l i k (by rw [HL.out]; exact hlt)))
      generalize l.getD k nd0 = b at *
      obtain ⟨id, alt⟩ := b
      have HCs : Hid (∀ j u, ([.int .i64 id, .int .i64 alt] : List Value)[j]? = some u → wo.cell? ((ad.add (k * 2)).add j) = some u) := hcs
      have f0 : wo.cell? (ad.add (k * 2)) = some (.int .i64 id) := by
        have h := HCs.out 0 _ rfl
        rwa [show (ad.add (k * 2)).add 0 = ad.add (k * 2) by unfold Addr.add; simp] at h
      clear hcs
      clear f0
      go_upto_region 4 with (refine wpList_load_at 63 (.tmp 13) rfl rfl (ad.add (k * 2)) rfl [.int .i64 id, .int .i64 alt] HCs.out _ Try.underlying63 rfl (by kernel_rfl) ?_)
      have HBw1 := (Blk.new wo 63 #[.int .i64 id, .int .i64 alt])
      have HLw1 := (below_new wo (.cells #[.int .i64 id, .int .i64 alt] 63))
      have hsw1 : (wo.alloc (.cells #[.int .i64 id, .int .i64 alt] 63)).heap.size = wo.heap.size + 1 := by simp
      generalize wo.alloc (.cells #[.int .i64 id, .int .i64 alt] 63) = w1 at HBw1 HLw1 hsw1 ⊢
      replace HBw1 := Lib.hid HBw1
      replace HLw1 := Lib.hid HLw1
      have hlw1 : wo.heap.size < w1.heap.size := by omega
      replace hsw1 := Lib.hid hsw1
      have HY1 := HBw1
      have hb1 := HLw1.out
      have hly : wo.heap.size < w1.heap.size := HBw1.out.lt
      clear HBw1 HLw1 hsw1 hlw1
      have HB1 := Lib.hid (HBo.out.trans (hb1.mono hszo))
      have HW1 := Lib.hid (HWo.out.trans (hb1.mono HWo.out.size))
      have hsz1 : wb.heap.size ≤ w1.heap.size := Nat.le_trans hszo hb1.size
      have HX01 := Lib.hid (HX0o.out.below hb1 (Nat.lt_of_lt_of_le hxx0 hszo))
      have HX11 := Lib.hid (HX1o.out.below hb1 (Nat.lt_of_lt_of_le hxx1 hszo))
      clear hb1
      have y0 : w1.cell? ⟨wo.heap.size, 0, none⟩ = some (.int .i64 id) := HY1.out.cell 0
      have y1 : w1.cell? ⟨wo.heap.size, 1, none⟩ = some (.int .i64 alt) := HY1.out.cell 1
      by_cases hid : id = i
      · have HF2 := Lib.hid (HA.out _ (HF1.out.trans (if_pos hid)))
        have d1 : (id == i) = true := beq_iff_eq.2 hid
        clear hid
        go_wp2_with
          (first
           | (refine wpList_load_blk rfl 63 (.tmp 7) rfl wo.heap.size rfl _ _ HY1.out _ Try.underlying63 rfl (by kernel_rfl) ?_)
           | (refine wpList_store_blk rfl 63 (.tmp 4) (.tmp 19) rfl (w.heap.size + 1) #[.int .i64 id, .int .i64 alt] rfl rfl _ _ HX11.out (by kernel_rfl) rfl (by simp [Value.oneCell']) ?_
              intro w2 hx2 hon2
              have HX2 := Lib.hid hx2
              have HB2 := Lib.hid (hon2.below HW1.out (by omega))
              clear hx2 hon2))
        refine bodyPost_ret (results_cell_row_tmp rfl _ _ (w.heap.size + 1) 63 _ _ _ rfl rfl HX2.out Try.underlying63 rfl (by kernel_rfl)) rfl ?_
        exact nodeR_of HF2.out.1 HF2.out.2 HB2.out
      · have HF2 := Lib.hid (HF1.out.trans (if_neg hid))
        have d1 : (id == i) = false := beq_eq_false_iff_ne.2 hid
        clear hid
        go_wp2_with fail
        go_roundw
        case rel => exact ⟨k + 1, by omega, by go_num, HF2.out, HB1.out⟩
        case measure => simp [intOf]; omega
    · obtain rfl : k = n := by omega
      have HF2 : Hid (qq = nd0 ∧ bb = false) := by have h := HF.out; rw [List.drop_of_length_le (by rw [HL.out]; exact Nat.le_refl _)] at h; exact hide (HA.out _ h)
      go_wp2_with
        (first
         | (refine wpList_store_blk rfl 63 (.tmp 4) (.tmp 21) rfl (w.heap.size + 1) #[.int .i64 0, .int .i64 0] rfl rfl _ _ HX1o.out (by kernel_rfl) rfl (by simp [Value.oneCell']) ?_
            intro w2 hx2 hon2
            have HX2 := Lib.hid hx2
            have HB2 := Lib.hid (hon2.below HWo.out (by omega))
            clear hx2 hon2))
      refine bodyPost_ret (results_cell_row_tmp rfl _ _ (w.heap.size + 1) 63 _ _ _ rfl rfl HX2.out Try.underlying63 rfl (by kernel_rfl)) rfl ?_
      exact nodeR_of HF2.out.1 HF2.out.2 HB2.out

set_option maxRecDepth 100000 in
set_option maxHeartbeats 4000000 in
theorem rnode_any (vn vl vr vb : Value) (l : List Nd) (i : Int) (w : World) (hm : StrV Nd.cells 2 w w.heap.size vn l) :
    Calls Try.prog 37 #[.agg #[vn, vl, vr, vb], .int .i64 i] w (NodeR (ndOf l i) (hasN l i) w) := by
  obtain ⟨A, n, c, rfl, HL, h1, h2, hr⟩ := hm.nam
  have HR := Lib.hid hr
  have hn : n ≤ maxLen := Nat.le_trans h1 h2
  unfold maxLen at hn
  clear hm hr h1 h2
  have HA : Hid (∀ g, findN l i = g → ndOf l i = g.getD nd0 ∧ hasN l i = g.isSome) := fun g h => by unfold ndOf hasN; rw [h]; exact ⟨rfl, rfl⟩
  generalize ndOf l i = qq at *
  generalize hasN l i = bb at *
  go_enter Try.func37, Try.ntmps37
  go_wp2_with fail
  have HBwz0 := (Blk.new w 44 #[.slice A n c, vl, vr, vb])
  have HLwz0 := (below_new w (.cells #[.slice A n c, vl, vr, vb] 44))
  have hswz0 : (w.alloc (.cells #[.slice A n c, vl, vr, vb] 44)).heap.size = w.heap.size + 1 := by simp
  generalize w.alloc (.cells #[.slice A n c, vl, vr, vb] 44) = wz0 at HBwz0 HLwz0 hswz0 ⊢
  replace HBwz0 := Lib.hid HBwz0
  replace HLwz0 := Lib.hid HLwz0
  have hlwz0 : w.heap.size < wz0.heap.size := by omega
  replace hswz0 := Lib.hid hswz0
  have HBwb := (Blk.new wz0 63 #[.int .i64 0, .int .i64 0])
  have HLwb := (below_new wz0 (.cells #[.int .i64 0, .int .i64 0] 63))
  have hswb : (wz0.alloc (.cells #[.int .i64 0, .int .i64 0] 63)).heap.size = wz0.heap.size + 1 := by simp
  generalize wz0.alloc (.cells #[.int .i64 0, .int .i64 0] 63) = wb at HBwb HLwb hswb ⊢
  replace HBwb := Lib.hid HBwb
  replace HLwb := Lib.hid HLwb
  have hlwb : wz0.heap.size < wb.heap.size := by omega
  replace hswb := Lib.hid hswb
  have HQ1 := Lib.hid (HLwz0.out.trans (HLwb.out.mono HLwz0.out.size))
  have HWb := Lib.hid (HQ1.out)
  have hl0 : w.heap.size ≤ wb.heap.size := HWb.out.size
  have HBb : Hid (Below wb.heap.size wb wb) := hide (Below.refl _ _)
  have hszb : wb.heap.size ≤ wb.heap.size := Nat.le_refl _
  have HZ0_1 := Lib.hid (HBwz0.out.below HLwb.out hlwz0)
  have hz0_1 : w.heap.size < wb.heap.size := HZ0_1.out.lt
  have HX0b : Hid (Blk wb w.heap.size 44 #[.slice A n c, vl, vr, vb]) := hide HZ0_1.out
  have hxx0 : w.heap.size < wb.heap.size := HX0b.out.lt
  have HX1b : Hid (Blk wb (w.heap.size + 1) 63 #[.int .i64 0, .int .i64 0]) := hide (by have h := HBwb.out; rw [show wz0.heap.size = w.heap.size + 1 from by have := hswz0.out; omega] at h; exact h)
  have hxx1 : (w.heap.size + 1) < wb.heap.size := HX1b.out.lt
  clear HBwz0 HLwz0 hswz0 hlwz0
  clear HBwb HLwb hswb hlwb
  go_loopw [6] (fun v wr => ∃ k : Nat, k ≤ n ∧ v = .int .i64 k ∧ findN l i = findN (l.drop k) i ∧ Below wb.heap.size wb wr) (fun v _ => n - (intOf v).toNat)
  case atStart => exact ⟨0, by omega, rfl, rfl, Below.refl _ _⟩
  case round =>
    obtain ⟨k, hk, rfl, hF, hbr⟩ := hrel
    have HF := Lib.hid hF
    clear hF
    obtain ⟨wo, rfl⟩ : ∃ wo : World, wo = wr := ⟨_, rfl⟩
    have HBo := Lib.hid (HBb.out.trans (hbr.mono hszb))
    have HWo := Lib.hid (HWb.out.trans (hbr.mono HWb.out.size))
    have hszo : wb.heap.size ≤ wo.heap.size := Nat.le_trans hszb hbr.size
    have HX0o := Lib.hid (HX0b.out.below hbr (Nat.lt_of_lt_of_le hxx0 hszb))
    have HX1o := Lib.hid (HX1b.out.below hbr (Nat.lt_of_lt_of_le hxx1 hszb))
    clear hbr
    have m0 : wo.cell? ⟨w.heap.size, 0, none⟩ = some (.slice A n c) := HX0o.out.cell 0
    have m1 : wo.cell? ⟨w.heap.size, 1, none⟩ = some (vl) := HX0o.out.cell 1
    have m2 : wo.cell? ⟨w.heap.size, 2, none⟩ = some (vr) := HX0o.out.cell 2
    have m3 : wo.cell? ⟨w.heap.size, 3, none⟩ = some (vb) := HX0o.out.cell 3
    by_cases hlt : k < n
    · obtain ⟨ad, rfl, hab, hcs⟩ := strs_at (HR.out.below HWo.out) (fun _ => rfl) HL.out hlt nd0
      have HF1 := Lib.hid (HF.out.trans (findN_at l i k (by rw [HL.out]; exact hlt)))
      generalize l.getD k nd0 = b at *
      obtain ⟨id, alt⟩ := b
      have HCs : Hid (∀ j u, ([.int .i64 id, .int .i64 alt] : List Value)[j]? = some u → wo.cell? ((ad.add (k * 2)).add j) = some u) := hcs
      have f0 : wo.cell? (ad.add (k * 2)) = some (.int .i64 id) := by
        have h := HCs.out 0 _ rfl
        rwa [show (ad.add (k * 2)).add 0 = ad.add (k * 2) by unfold Addr.add; simp] at h
      clear hcs
      by_cases hid : id = i
      · have HF2 := Lib.hid (HA.out _ (HF1.out.trans (if_pos hid)))
        have d1 : (id == i) = true := beq_iff_eq.2 hid
        clear hid
        go_wp2_with
          (first
           | (refine wpList_load_at 63 (.tmp 25) rfl rfl (ad.add (k * 2)) rfl [.int .i64 id, .int .i64 alt] HCs.out _ Try.underlying63 rfl (by kernel_rfl) ?_)
           | (refine wpList_store_blk rfl 63 (.tmp 4) (.tmp 26) rfl (w.heap.size + 1) #[.int .i64 id, .int .i64 alt] rfl rfl _ _ HX1o.out (by kernel_rfl) rfl (by simp [Value.oneCell']) ?_
              intro w2 hx2 hon2
              have HX2 := Lib.hid hx2
              have HB2 := Lib.hid (hon2.below HWo.out (by omega))
              clear hx2 hon2))
        refine bodyPost_ret (results_cell_row_tmp rfl _ _ (w.heap.size + 1) 63 _ _ _ rfl rfl HX2.out Try.underlying63 rfl (by kernel_rfl)) rfl ?_
        exact nodeR_of HF2.out.1 HF2.out.2 HB2.out
      · have HF2 := Lib.hid (HF1.out.trans (if_neg hid))
        have d1 : (id == i) = false := beq_eq_false_iff_ne.2 hid
        clear hid
        go_wp2_with fail
        go_roundw
        case rel => exact ⟨k + 1, by omega, by go_num, HF2.out, HBo.out⟩
        case measure => simp [intOf]; omega
    · obtain rfl : k = n := by omega
      have HF2 : Hid (qq = nd0 ∧ bb = false) := by have h := HF.out; rw [List.drop_of_length_le (by rw [HL.out]; exact Nat.le_refl _)] at h; exact hide (HA.out _ h)
      go_wp2_with
        (first
         | (refine wpList_store_blk rfl 63 (.tmp 4) (.tmp 27) rfl (w.heap.size + 1) #[.int .i64 0, .int .i64 0] rfl rfl _ _ HX1o.out (by kernel_rfl) rfl (by simp [Value.oneCell']) ?_
            intro w2 hx2 hon2
            have HX2 := Lib.hid hx2
            have HB2 := Lib.hid (hon2.below HWo.out (by omega))
            clear hx2 hon2))
      refine bodyPost_ret (results_cell_row_tmp rfl _ _ (w.heap.size + 1) 63 _ _ _ rfl rfl HX2.out Try.underlying63 rfl (by kernel_rfl)) rfl ?_
      exact nodeR_of HF2.out.1 HF2.out.2 HB2.out
end Go.Proofs.Ytihmboibpjfohaa
