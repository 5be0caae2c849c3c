/-
  Small functions of chapter 56 and of its reference, walked: before, possible, ready and their like.
-/
import Derived.Test.YticoeibccdplaaaSwpA
import Derived.Test.YticoeibccdplaaaReg
import Derived.Test.YticoeibccdplaaaRegA
namespace Go.Proofs.Yticoeibccdplaaa
open Go.RowKit

set_option maxRecDepth 100000 in
set_option maxHeartbeats 4000000 in
theorem rrun_any (vn vl vr vb : Value) (rs : List Rn) (i : Int) (w : World) (hm : StrV Rn.cells 7 w w.heap.size vr rs) :
    Calls Try.prog 59 #[.agg #[vn, vl, vr, vb], .int .i64 i] w (RunR rs i w) := by
  obtain ⟨A, n, c, rfl, HL, h1, h2, hr⟩ := hm.nam
  have HR := Lib.hid hr
  have hn : n ≤ maxLen := Nat.le_trans h1 h2
  unfold maxLen at hn
  clear hm hr h1 h2
  go_enter Try.func59, Try.ntmps59
  go_wp2_with fail
  have HBwz0 := (Blk.new w 27 #[vn, vl, .slice A n c, vb])
  have HLwz0 := (below_new w (.cells #[vn, vl, .slice A n c, vb] 27))
  have hswz0 : (w.alloc (.cells #[vn, vl, .slice A n c, vb] 27)).heap.size = w.heap.size + 1 := by simp
  generalize w.alloc (.cells #[vn, vl, .slice A n c, vb] 27) = wz0 at HBwz0 HLwz0 hswz0 ⊢
  replace HBwz0 := Lib.hid HBwz0
  replace HLwz0 := Lib.hid HLwz0
  have hlwz0 : w.heap.size < wz0.heap.size := by omega
  replace hswz0 := Lib.hid hswz0
  have HBwb := (Blk.new wz0 60 #[.int .i64 0, .int .i64 0, .int .i64 0, .int .i64 0, .int .i64 0, .int .i64 0, .int .i64 0])
  have HLwb := (below_new wz0 (.cells #[.int .i64 0, .int .i64 0, .int .i64 0, .int .i64 0, .int .i64 0, .int .i64 0, .int .i64 0] 60))
  have hswb : (wz0.alloc (.cells #[.int .i64 0, .int .i64 0, .int .i64 0, .int .i64 0, .int .i64 0, .int .i64 0, .int .i64 0] 60)).heap.size = wz0.heap.size + 1 := by simp
  generalize wz0.alloc (.cells #[.int .i64 0, .int .i64 0, .int .i64 0, .int .i64 0, .int .i64 0, .int .i64 0, .int .i64 0] 60) = wb at HBwb HLwb hswb ⊢
  replace HBwb := Lib.hid HBwb
  replace HLwb := Lib.hid HLwb
  have hlwb : wz0.heap.size < wb.heap.size := by omega
  replace hswb := Lib.hid hswb
  have HQ1 := Lib.hid (HLwz0.out.trans (HLwb.out.mono HLwz0.out.size))
  have HWb := Lib.hid (HQ1.out)
  have hl0 : w.heap.size ≤ wb.heap.size := HWb.out.size
  have HBb : Hid (Below wb.heap.size wb wb) := hide (Below.refl _ _)
  have hszb : wb.heap.size ≤ wb.heap.size := Nat.le_refl _
  have HZ0_1 := Lib.hid (HBwz0.out.below HLwb.out hlwz0)
  have hz0_1 : w.heap.size < wb.heap.size := HZ0_1.out.lt
  have HX0b : Hid (Blk wb w.heap.size 27 #[vn, vl, .slice A n c, vb]) := hide HZ0_1.out
  have hx0 : w.heap.size < wb.heap.size := HX0b.out.lt
  have HX1b : Hid (Blk wb (w.heap.size + 1) 60 #[.int .i64 0, .int .i64 0, .int .i64 0, .int .i64 0, .int .i64 0, .int .i64 0, .int .i64 0]) := hide (by have h := HBwb.out; rw [show wz0.heap.size = w.heap.size + 1 from by have := hswz0.out; omega] at h; exact h)
  have hx1 : (w.heap.size + 1) < wb.heap.size := HX1b.out.lt
  clear HBwz0 HLwz0 hswz0 hlwz0
  clear HBwb HLwb hswb hlwb
  go_loopw [6] (fun v wr => ∃ k : Nat, k ≤ n ∧ v = .int .i64 k ∧ findF rs i = findF (rs.drop k) i ∧ Below wb.heap.size wb wr) (fun v _ => n - (intOf v).toNat)
  case atStart => exact ⟨0, by omega, rfl, rfl, Below.refl _ _⟩
  case round =>
    obtain ⟨k, hk, rfl, hF, hbr⟩ := hrel
    have HF := Lib.hid hF
    clear hF
    obtain ⟨wo, rfl⟩ : ∃ wo : World, wo = wr := ⟨_, rfl⟩
    have HBo := Lib.hid (HBb.out.trans (hbr.mono hszb))
    have HWo := Lib.hid (HWb.out.trans (hbr.mono HWb.out.size))
    have hszo : wb.heap.size ≤ wo.heap.size := Nat.le_trans hszb hbr.size
    have HX0o := Lib.hid (HX0b.out.below hbr (Nat.lt_of_lt_of_le hx0 hszb))
    have HX1o := Lib.hid (HX1b.out.below hbr (Nat.lt_of_lt_of_le hx1 hszb))
    clear hbr
    have m0 : wo.cell? ⟨w.heap.size, 0, none⟩ = some (vn) := HX0o.out.cell 0
    have m1 : wo.cell? ⟨w.heap.size, 1, none⟩ = some (vl) := HX0o.out.cell 1
    have m2 : wo.cell? ⟨w.heap.size, 2, none⟩ = some (.slice A n c) := HX0o.out.cell 2
    have m3 : wo.cell? ⟨w.heap.size, 3, none⟩ = some (vb) := HX0o.out.cell 3
    by_cases hlt : k < n
    · obtain ⟨ad, rfl, hab, hcs⟩ := strs_at (HR.out.below HWo.out) (fun _ => rfl) HL.out hlt rn0
      have HY : Hid ((rs.getD k rn0).id = i → findF rs i = some (rs.getD k rn0)) := fun h => HF.out.trans (findF_yes' (by rw [HL.out]; exact hlt) h)
      have HN : Hid ((rs.getD k rn0).id ≠ i → findF rs i = findF (rs.drop (k + 1)) i) := fun h => HF.out.trans (findF_no' (by rw [HL.out]; exact hlt) h)
      generalize rs.getD k rn0 = b at *
      obtain ⟨id, op, fr, tt, gr, zn, ln⟩ := b
      have HCs : Hid (∀ j u, ([.int .i64 id, .int .i64 op, .int .i64 fr, .int .i64 tt, .int .i64 gr, .int .i64 zn, .int .i64 ln] : List Value)[j]? = some u → wo.cell? ((ad.add (k * 7)).add j) = some u) := hcs
      have f0 : wo.cell? (ad.add (k * 7)) = some (.int .i64 id) := by
        have h := HCs.out 0 _ rfl
        rwa [show (ad.add (k * 7)).add 0 = ad.add (k * 7) by unfold Addr.add; simp] at h
      clear hcs
      by_cases hid : id = i
      · have HF2 := Lib.hid (HY.out hid)
        have d1 : (id == i) = true := beq_iff_eq.2 hid
        clear hid
        go_wp2_with
          (first
           | (refine wpList_load_at 60 (.tmp 25) rfl rfl (ad.add (k * 7)) rfl [.int .i64 id, .int .i64 op, .int .i64 fr, .int .i64 tt, .int .i64 gr, .int .i64 zn, .int .i64 ln] HCs.out _ Try.underlying60 rfl (by kernel_rfl) ?_)
           | (refine wpList_store_blk rfl 60 (.tmp 4) (.tmp 26) rfl (w.heap.size + 1) #[.int .i64 id, .int .i64 op, .int .i64 fr, .int .i64 tt, .int .i64 gr, .int .i64 zn, .int .i64 ln] rfl rfl _ _ HX1o.out (by kernel_rfl) rfl (by simp [Value.oneCell']) ?_
              intro w2 hx2 hon2
              have HX2 := Lib.hid hx2
              have HB2 := Lib.hid (hon2.below HWo.out (by omega))
              clear hx2 hon2))
        refine bodyPost_ret (results_cell_row_tmp rfl _ _ (w.heap.size + 1) 60 _ _ _ rfl rfl HX2.out Try.underlying60 rfl (by kernel_rfl)) rfl ?_
        exact runR_of HF2.out HB2.out
      · have HF2 := Lib.hid (HN.out hid)
        have d1 : (id == i) = false := beq_eq_false_iff_ne.2 hid
        clear hid
        go_wp2_with fail
        go_roundw
        case rel => exact ⟨k + 1, by omega, by go_num, HF2.out, HBo.out⟩
        case measure => simp [intOf]; omega
    · obtain rfl : k = n := by omega
      have HF2 : Hid (findF rs i = none) := by have h := HF.out; rw [List.drop_of_length_le (by rw [HL.out]; exact Nat.le_refl _)] at h; exact hide h
      go_wp2_with
        (refine wpList_store_blk rfl 60 (.tmp 4) (.tmp 27) rfl (w.heap.size + 1) #[.int .i64 0, .int .i64 0, .int .i64 0, .int .i64 0, .int .i64 0, .int .i64 0, .int .i64 0] rfl rfl _ _ HX1o.out (by kernel_rfl) rfl (by simp [Value.oneCell']) ?_
         intro w2 hx2 hon2
         have HX2 := Lib.hid hx2
         have HB2 := Lib.hid (hon2.below HWo.out (by omega))
         clear hx2 hon2)
      refine bodyPost_ret (results_cell_row_tmp rfl _ _ (w.heap.size + 1) 60 _ _ _ rfl rfl HX2.out Try.underlying60 rfl (by kernel_rfl)) rfl ?_
      exact runR_of HF2.out HB2.out

set_option maxRecDepth 100000 in
set_option maxHeartbeats 4000000 in
theorem before_any (vn vl vr vb : Value) (rs : List Rn) (a b : Int) (w : World) (hm : StrV Rn.cells 7 w w.heap.size vr rs) :
    Calls Try.prog 66 #[.agg #[vn, vl, vr, vb], .int .i64 a, .int .i64 b] w fun e w' => e = .returned (.bool (befP rs a b)) ∧ Below w.heap.size w w' := by
  have HM := Lib.hid hm
  clear hm
  obtain ⟨rp, hrp⟩ : ∃ x, getR rs a = x := ⟨_, rfl⟩
  obtain ⟨hp, hhp⟩ : ∃ x, hasR rs a = x := ⟨_, rfl⟩
  have HCp : Hid (∀ W : World, StrV Rn.cells 7 W W.heap.size vr rs → Calls Try.prog 40 #[.agg #[vn, vl, vr, vb], .int .i64 a] W fun e w' => e = .returned (.tuple #[.agg #[.int .i64 rp.id, .int .i64 rp.op, .int .i64 rp.fr, .int .i64 rp.tt, .int .i64 rp.gr, .int .i64 rp.zn, .int .i64 rp.ln], .bool hp]) ∧ Below W.heap.size W w') := by
    intro W hW
    have h := run_any vn vl vr vb rs a W hW
    unfold RunR at h
    rw [hrp, hhp] at h
    exact h
  obtain ⟨rq, hrq⟩ : ∃ x, getR rs b = x := ⟨_, rfl⟩
  obtain ⟨hq, hhq⟩ : ∃ x, hasR rs b = x := ⟨_, rfl⟩
  have HCq : Hid (∀ W : World, StrV Rn.cells 7 W W.heap.size vr rs → Calls Try.prog 40 #[.agg #[vn, vl, vr, vb], .int .i64 b] W fun e w' => e = .returned (.tuple #[.agg #[.int .i64 rq.id, .int .i64 rq.op, .int .i64 rq.fr, .int .i64 rq.tt, .int .i64 rq.gr, .int .i64 rq.zn, .int .i64 rq.ln], .bool hq]) ∧ Below W.heap.size W w') := by
    intro W hW
    have h := run_any vn vl vr vb rs b W hW
    unfold RunR at h
    rw [hrq, hhq] at h
    exact h
  have HE : Hid (befP rs a b = (rp.tt == rq.fr)) := by show _ = _; unfold befP; rw [hrp, hrq]
  clear hrp hrq hhp hhq
  obtain ⟨pid, pop, pfr, ptt, pgr, pzn, pln⟩ := rp
  obtain ⟨qid, qop, qfr, qtt, qgr, qzn, qln⟩ := rq
  simp only at HCp HCq HE
  go_enter Try.func66, Try.ntmps66
  go_wp2_with fail
  have HBwb := (Blk.new w 27 #[vn, vl, vr, vb])
  have HLwb := (below_new w (.cells #[vn, vl, vr, vb] 27))
  have hswb : (w.alloc (.cells #[vn, vl, vr, vb] 27)).heap.size = w.heap.size + 1 := by simp
  generalize w.alloc (.cells #[vn, vl, vr, vb] 27) = wb at HBwb HLwb hswb ⊢
  replace HBwb := Lib.hid HBwb
  replace HLwb := Lib.hid HLwb
  have hlwb : w.heap.size < wb.heap.size := by omega
  replace hswb := Lib.hid hswb
  have HWb := Lib.hid (HLwb.out)
  have hl0 : w.heap.size ≤ wb.heap.size := HWb.out.size
  have HBb : Hid (Below wb.heap.size wb wb) := hide (Below.refl _ _)
  have hszb : wb.heap.size ≤ wb.heap.size := Nat.le_refl _
  have HX0b : Hid (Blk wb w.heap.size 27 #[vn, vl, vr, vb]) := hide HBwb.out
  have hx0 : w.heap.size < wb.heap.size := HX0b.out.lt
  clear HBwb HLwb hswb hlwb
  have HMb := Lib.hid (HM.out.now HWb.out)
  go_wp2_with
    (first
     | (refine wpList_load_g 27 (.tmp 3) rfl rfl w.heap.size rfl _ _ HX0b.out _ Try.underlying27 rfl (by kernel_rfl) ?_))
  with_reducible refine (HCp.out _ HMb.out).mono ?_
  rintro e w1 ⟨rfl, hb1⟩
  have HB1 := Lib.hid (HBb.out.trans (hb1.mono hszb))
  have HW1 := Lib.hid (HWb.out.trans (hb1.mono HWb.out.size))
  have hsz1 : wb.heap.size ≤ w1.heap.size := Nat.le_trans hszb hb1.size
  have HX01 := Lib.hid (HX0b.out.below hb1 (Nat.lt_of_lt_of_le hx0 hszb))
  have HM1 := Lib.hid (HMb.out.now hb1)
  clear hb1
  go_wp2_with
    (first
     | (refine wpList_store_blk rfl 60 (.tmp 7) (.tmp 15) rfl w1.heap.size #[.int .i64 pid, .int .i64 pop, .int .i64 pfr, .int .i64 ptt, .int .i64 pgr, .int .i64 pzn, .int .i64 pln] rfl rfl _ _ (Blk.new w1 60 #[.int .i64 0, .int .i64 0, .int .i64 0, .int .i64 0, .int .i64 0, .int .i64 0, .int .i64 0]) (by kernel_rfl) rfl (by simp [Value.oneCell']) ?_
        intro w2 hx2 hon2
        have hb2 := hon2.below (below_new w1 (.cells #[.int .i64 0, .int .i64 0, .int .i64 0, .int .i64 0, .int .i64 0, .int .i64 0, .int .i64 0] 60)) (Nat.le_refl _)
        have HLp2 := Lib.hid hx2
        have HB2 := Lib.hid (HB1.out.trans (hb2.mono hsz1))
        have HW2 := Lib.hid (HW1.out.trans (hb2.mono HW1.out.size))
        have hsz2 : wb.heap.size ≤ w2.heap.size := Nat.le_trans hsz1 hb2.size
        have HX02 := Lib.hid (HX01.out.below hb2 (Nat.lt_of_lt_of_le hx0 hsz1))
        have HM2 := Lib.hid (HM1.out.now hb2)
        clear hx2 hon2 hb2)
     | (refine wpList_load_g 27 (.tmp 3) rfl rfl w.heap.size rfl _ _ HX02.out _ Try.underlying27 rfl (by kernel_rfl) ?_))
  with_reducible refine (HCq.out _ HM2.out).mono ?_
  rintro e w3 ⟨rfl, hb3⟩
  have HB3 := Lib.hid (HB2.out.trans (hb3.mono hsz2))
  have HW3 := Lib.hid (HW2.out.trans (hb3.mono HW2.out.size))
  have hsz3 : wb.heap.size ≤ w3.heap.size := Nat.le_trans hsz2 hb3.size
  have HX03 := Lib.hid (HX02.out.below hb3 (Nat.lt_of_lt_of_le hx0 hsz2))
  have HLp3 := Lib.hid (HLp2.out.below hb3 HLp2.out.lt)
  have HM3 := Lib.hid (HM2.out.now hb3)
  clear hb3
  go_wp2_with
    (first
     | (refine wpList_store_blk rfl 60 (.tmp 9) (.tmp 21) rfl w3.heap.size #[.int .i64 qid, .int .i64 qop, .int .i64 qfr, .int .i64 qtt, .int .i64 qgr, .int .i64 qzn, .int .i64 qln] rfl rfl _ _ (Blk.new w3 60 #[.int .i64 0, .int .i64 0, .int .i64 0, .int .i64 0, .int .i64 0, .int .i64 0, .int .i64 0]) (by kernel_rfl) rfl (by simp [Value.oneCell']) ?_
        intro w4 hx4 hon4
        have hb4 := hon4.below (below_new w3 (.cells #[.int .i64 0, .int .i64 0, .int .i64 0, .int .i64 0, .int .i64 0, .int .i64 0, .int .i64 0] 60)) (Nat.le_refl _)
        have HLq4 := Lib.hid hx4
        have HB4 := Lib.hid (HB3.out.trans (hb4.mono hsz3))
        have HW4 := Lib.hid (HW3.out.trans (hb4.mono HW3.out.size))
        have hsz4 : wb.heap.size ≤ w4.heap.size := Nat.le_trans hsz3 hb4.size
        have HX04 := Lib.hid (HX03.out.below hb4 (Nat.lt_of_lt_of_le hx0 hsz3))
        have HLp4 := Lib.hid (HLp3.out.below hb4 HLp3.out.lt)
        have HM4 := Lib.hid (HM3.out.now hb4)
        have e3 : w4.cell? ⟨w1.heap.size, 3, none⟩ = some (.int .i64 ptt) := HLp4.out.cell 3
        have f2 : w4.cell? ⟨w3.heap.size, 2, none⟩ = some (.int .i64 qfr) := HLq4.out.cell 2
        clear hx4 hon4 hb4))
  go_ret
  exact ⟨ret_b HE.out.symm, HW4.out⟩

set_option maxRecDepth 100000 in
set_option maxHeartbeats 4000000 in
theorem rbefore_any (vn vl vr vb : Value) (rs : List Rn) (a b : Int) (w : World) (hm : StrV Rn.cells 7 w w.heap.size vr rs) :
    Calls Try.prog 70 #[.agg #[vn, vl, vr, vb], .int .i64 a, .int .i64 b] w fun e w' => e = .returned (.bool (befR rs a b)) ∧ Below w.heap.size w w' := by
  have HM := Lib.hid hm
  clear hm
  obtain ⟨rp, hrp⟩ : ∃ x, getR rs a = x := ⟨_, rfl⟩
  obtain ⟨hp, hhp⟩ : ∃ x, hasR rs a = x := ⟨_, rfl⟩
  have HCp : Hid (∀ W : World, StrV Rn.cells 7 W W.heap.size vr rs → Calls Try.prog 59 #[.agg #[vn, vl, vr, vb], .int .i64 a] W fun e w' => e = .returned (.tuple #[.agg #[.int .i64 rp.id, .int .i64 rp.op, .int .i64 rp.fr, .int .i64 rp.tt, .int .i64 rp.gr, .int .i64 rp.zn, .int .i64 rp.ln], .bool hp]) ∧ Below W.heap.size W w') := by
    intro W hW
    have h := rrun_any vn vl vr vb rs a W hW
    unfold RunR at h
    rw [hrp, hhp] at h
    exact h
  obtain ⟨rq, hrq⟩ : ∃ x, getR rs b = x := ⟨_, rfl⟩
  obtain ⟨hq, hhq⟩ : ∃ x, hasR rs b = x := ⟨_, rfl⟩
  have HCq : Hid (∀ W : World, StrV Rn.cells 7 W W.heap.size vr rs → Calls Try.prog 59 #[.agg #[vn, vl, vr, vb], .int .i64 b] W fun e w' => e = .returned (.tuple #[.agg #[.int .i64 rq.id, .int .i64 rq.op, .int .i64 rq.fr, .int .i64 rq.tt, .int .i64 rq.gr, .int .i64 rq.zn, .int .i64 rq.ln], .bool hq]) ∧ Below W.heap.size W w') := by
    intro W hW
    have h := rrun_any vn vl vr vb rs b W hW
    unfold RunR at h
    rw [hrq, hhq] at h
    exact h
  have HE : Hid (befR rs a b = (hp && (hq && (rp.tt == rq.fr)))) := by show _ = _; unfold befR befP; rw [hrp, hrq, hhp, hhq]
  clear hrp hrq hhp hhq
  obtain ⟨pid, pop, pfr, ptt, pgr, pzn, pln⟩ := rp
  obtain ⟨qid, qop, qfr, qtt, qgr, qzn, qln⟩ := rq
  simp only at HCp HCq HE
  go_enter Try.func70, Try.ntmps70
  go_wp2_with fail
  have HBwb := (Blk.new w 27 #[vn, vl, vr, vb])
  have HLwb := (below_new w (.cells #[vn, vl, vr, vb] 27))
  have hswb : (w.alloc (.cells #[vn, vl, vr, vb] 27)).heap.size = w.heap.size + 1 := by simp
  generalize w.alloc (.cells #[vn, vl, vr, vb] 27) = wb at HBwb HLwb hswb ⊢
  replace HBwb := Lib.hid HBwb
  replace HLwb := Lib.hid HLwb
  have hlwb : w.heap.size < wb.heap.size := by omega
  replace hswb := Lib.hid hswb
  have HWb := Lib.hid (HLwb.out)
  have hl0 : w.heap.size ≤ wb.heap.size := HWb.out.size
  have HBb : Hid (Below wb.heap.size wb wb) := hide (Below.refl _ _)
  have hszb : wb.heap.size ≤ wb.heap.size := Nat.le_refl _
  have HX0b : Hid (Blk wb w.heap.size 27 #[vn, vl, vr, vb]) := hide HBwb.out
  have hx0 : w.heap.size < wb.heap.size := HX0b.out.lt
  clear HBwb HLwb hswb hlwb
  have HMb := Lib.hid (HM.out.now HWb.out)
  go_wp2_with
    (first
     | (refine wpList_load_g 27 (.tmp 3) rfl rfl w.heap.size rfl _ _ HX0b.out _ Try.underlying27 rfl (by kernel_rfl) ?_))
  with_reducible refine (HCp.out _ HMb.out).mono ?_
  rintro e w1 ⟨rfl, hb1⟩
  have HB1 := Lib.hid (HBb.out.trans (hb1.mono hszb))
  have HW1 := Lib.hid (HWb.out.trans (hb1.mono HWb.out.size))
  have hsz1 : wb.heap.size ≤ w1.heap.size := Nat.le_trans hszb hb1.size
  have HX01 := Lib.hid (HX0b.out.below hb1 (Nat.lt_of_lt_of_le hx0 hszb))
  have HM1 := Lib.hid (HMb.out.now hb1)
  clear hb1
  go_wp2_with
    (first
     | (refine wpList_store_blk rfl 60 (.tmp 7) (.tmp 15) rfl w1.heap.size #[.int .i64 pid, .int .i64 pop, .int .i64 pfr, .int .i64 ptt, .int .i64 pgr, .int .i64 pzn, .int .i64 pln] rfl rfl _ _ (Blk.new w1 60 #[.int .i64 0, .int .i64 0, .int .i64 0, .int .i64 0, .int .i64 0, .int .i64 0, .int .i64 0]) (by kernel_rfl) rfl (by simp [Value.oneCell']) ?_
        intro w2 hx2 hon2
        have hb2 := hon2.below (below_new w1 (.cells #[.int .i64 0, .int .i64 0, .int .i64 0, .int .i64 0, .int .i64 0, .int .i64 0, .int .i64 0] 60)) (Nat.le_refl _)
        have HLp2 := Lib.hid hx2
        have HB2 := Lib.hid (HB1.out.trans (hb2.mono hsz1))
        have HW2 := Lib.hid (HW1.out.trans (hb2.mono HW1.out.size))
        have hsz2 : wb.heap.size ≤ w2.heap.size := Nat.le_trans hsz1 hb2.size
        have HX02 := Lib.hid (HX01.out.below hb2 (Nat.lt_of_lt_of_le hx0 hsz1))
        have HM2 := Lib.hid (HM1.out.now hb2)
        clear hx2 hon2 hb2)
     | (refine wpList_load_g 27 (.tmp 3) rfl rfl w.heap.size rfl _ _ HX02.out _ Try.underlying27 rfl (by kernel_rfl) ?_))
  with_reducible refine (HCq.out _ HM2.out).mono ?_
  rintro e w3 ⟨rfl, hb3⟩
  have HB3 := Lib.hid (HB2.out.trans (hb3.mono hsz2))
  have HW3 := Lib.hid (HW2.out.trans (hb3.mono HW2.out.size))
  have hsz3 : wb.heap.size ≤ w3.heap.size := Nat.le_trans hsz2 hb3.size
  have HX03 := Lib.hid (HX02.out.below hb3 (Nat.lt_of_lt_of_le hx0 hsz2))
  have HLp3 := Lib.hid (HLp2.out.below hb3 HLp2.out.lt)
  have HM3 := Lib.hid (HM2.out.now hb3)
  clear hb3
  cases hp with
  | false =>
    go_wp2_with
      (first
       | (refine wpList_store_blk rfl 60 (.tmp 9) (.tmp 21) rfl w3.heap.size #[.int .i64 qid, .int .i64 qop, .int .i64 qfr, .int .i64 qtt, .int .i64 qgr, .int .i64 qzn, .int .i64 qln] rfl rfl _ _ (Blk.new w3 60 #[.int .i64 0, .int .i64 0, .int .i64 0, .int .i64 0, .int .i64 0, .int .i64 0, .int .i64 0]) (by kernel_rfl) rfl (by simp [Value.oneCell']) ?_
          intro w4 hx4 hon4
          have hb4 := hon4.below (below_new w3 (.cells #[.int .i64 0, .int .i64 0, .int .i64 0, .int .i64 0, .int .i64 0, .int .i64 0, .int .i64 0] 60)) (Nat.le_refl _)
          have HLq4 := Lib.hid hx4
          have HB4 := Lib.hid (HB3.out.trans (hb4.mono hsz3))
          have HW4 := Lib.hid (HW3.out.trans (hb4.mono HW3.out.size))
          have hsz4 : wb.heap.size ≤ w4.heap.size := Nat.le_trans hsz3 hb4.size
          have HX04 := Lib.hid (HX03.out.below hb4 (Nat.lt_of_lt_of_le hx0 hsz3))
          have HLp4 := Lib.hid (HLp3.out.below hb4 HLp3.out.lt)
          have HM4 := Lib.hid (HM3.out.now hb4)
          have e3 : w4.cell? ⟨w1.heap.size, 3, none⟩ = some (.int .i64 ptt) := HLp4.out.cell 3
          have f2 : w4.cell? ⟨w3.heap.size, 2, none⟩ = some (.int .i64 qfr) := HLq4.out.cell 2
          clear hx4 hon4 hb4))
    go_ret
    exact ⟨ret_b HE.out.symm, HW4.out⟩
  | true =>
    cases hq with
    | false =>
      go_wp2_with
        (first
         | (refine wpList_store_blk rfl 60 (.tmp 9) (.tmp 21) rfl w3.heap.size #[.int .i64 qid, .int .i64 qop, .int .i64 qfr, .int .i64 qtt, .int .i64 qgr, .int .i64 qzn, .int .i64 qln] rfl rfl _ _ (Blk.new w3 60 #[.int .i64 0, .int .i64 0, .int .i64 0, .int .i64 0, .int .i64 0, .int .i64 0, .int .i64 0]) (by kernel_rfl) rfl (by simp [Value.oneCell']) ?_
            intro w4 hx4 hon4
            have hb4 := hon4.below (below_new w3 (.cells #[.int .i64 0, .int .i64 0, .int .i64 0, .int .i64 0, .int .i64 0, .int .i64 0, .int .i64 0] 60)) (Nat.le_refl _)
            have HLq4 := Lib.hid hx4
            have HB4 := Lib.hid (HB3.out.trans (hb4.mono hsz3))
            have HW4 := Lib.hid (HW3.out.trans (hb4.mono HW3.out.size))
            have hsz4 : wb.heap.size ≤ w4.heap.size := Nat.le_trans hsz3 hb4.size
            have HX04 := Lib.hid (HX03.out.below hb4 (Nat.lt_of_lt_of_le hx0 hsz3))
            have HLp4 := Lib.hid (HLp3.out.below hb4 HLp3.out.lt)
            have HM4 := Lib.hid (HM3.out.now hb4)
            have e3 : w4.cell? ⟨w1.heap.size, 3, none⟩ = some (.int .i64 ptt) := HLp4.out.cell 3
            have f2 : w4.cell? ⟨w3.heap.size, 2, none⟩ = some (.int .i64 qfr) := HLq4.out.cell 2
            clear hx4 hon4 hb4))
      go_ret
      exact ⟨ret_b HE.out.symm, HW4.out⟩
    | true =>
      go_wp2_with
        (first
         | (refine wpList_store_blk rfl 60 (.tmp 9) (.tmp 21) rfl w3.heap.size #[.int .i64 qid, .int .i64 qop, .int .i64 qfr, .int .i64 qtt, .int .i64 qgr, .int .i64 qzn, .int .i64 qln] rfl rfl _ _ (Blk.new w3 60 #[.int .i64 0, .int .i64 0, .int .i64 0, .int .i64 0, .int .i64 0, .int .i64 0, .int .i64 0]) (by kernel_rfl) rfl (by simp [Value.oneCell']) ?_
            intro w4 hx4 hon4
            have hb4 := hon4.below (below_new w3 (.cells #[.int .i64 0, .int .i64 0, .int .i64 0, .int .i64 0, .int .i64 0, .int .i64 0, .int .i64 0] 60)) (Nat.le_refl _)
            have HLq4 := Lib.hid hx4
            have HB4 := Lib.hid (HB3.out.trans (hb4.mono hsz3))
            have HW4 := Lib.hid (HW3.out.trans (hb4.mono HW3.out.size))
            have hsz4 : wb.heap.size ≤ w4.heap.size := Nat.le_trans hsz3 hb4.size
            have HX04 := Lib.hid (HX03.out.below hb4 (Nat.lt_of_lt_of_le hx0 hsz3))
            have HLp4 := Lib.hid (HLp3.out.below hb4 HLp3.out.lt)
            have HM4 := Lib.hid (HM3.out.now hb4)
            have e3 : w4.cell? ⟨w1.heap.size, 3, none⟩ = some (.int .i64 ptt) := HLp4.out.cell 3
            have f2 : w4.cell? ⟨w3.heap.size, 2, none⟩ = some (.int .i64 qfr) := HLq4.out.cell 2
            clear hx4 hon4 hb4))
      go_ret
      exact ⟨ret_b (by rw [HE.out]; rfl), HW4.out⟩
end Go.Proofs.Yticoeibccdplaaa
