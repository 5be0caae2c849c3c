/-
  The law's own comparison of runs, walked.
-/
import Derived.Test.YticoeibccdplaaaSwpB
namespace Go.Proofs.Yticoeibccdplaaa
open Go.RowKit


set_option maxRecDepth 100000 in
set_option maxHeartbeats 4000000 in
theorem precedes_any (vn vl vr vb : Value) (rs : List Rn) (a b : Int) (w : World) (hm : StrV Rn.cells 7 w w.heap.size vr rs) :
    Calls Try.prog 34 #[.agg #[vn, vl, vr, vb], .int .i64 a, .int .i64 b] w fun e w' => e = .returned (.bool (befR rs a b)) ∧ Below w.heap.size w w' := by
  have HM := Lib.hid hm
  clear hm
  obtain ⟨rp, hrp⟩ : ∃ x, getR rs a = x := ⟨_, rfl⟩
  obtain ⟨hp, hhp⟩ : ∃ x, hasR rs a = x := ⟨_, rfl⟩
  have HCp : Hid (∀ W : World, StrV Rn.cells 7 W W.heap.size vr rs → Calls Try.prog 59 #[.agg #[vn, vl, vr, vb], .int .i64 a] W fun e w' => e = .returned (.tuple #[.agg #[.int .i64 rp.id, .int .i64 rp.op, .int .i64 rp.fr, .int .i64 rp.tt, .int .i64 rp.gr, .int .i64 rp.zn, .int .i64 rp.ln], .bool hp]) ∧ Below W.heap.size W w') := by
    intro W hW
    have h := rrun_any vn vl vr vb rs a W hW
    unfold RunR at h
    rw [hrp, hhp] at h
    exact h
  obtain ⟨rq, hrq⟩ : ∃ x, getR rs b = x := ⟨_, rfl⟩
  obtain ⟨hq, hhq⟩ : ∃ x, hasR rs b = x := ⟨_, rfl⟩
  have HCq : Hid (∀ W : World, StrV Rn.cells 7 W W.heap.size vr rs → Calls Try.prog 59 #[.agg #[vn, vl, vr, vb], .int .i64 b] W fun e w' => e = .returned (.tuple #[.agg #[.int .i64 rq.id, .int .i64 rq.op, .int .i64 rq.fr, .int .i64 rq.tt, .int .i64 rq.gr, .int .i64 rq.zn, .int .i64 rq.ln], .bool hq]) ∧ Below W.heap.size W w') := by
    intro W hW
    have h := rrun_any vn vl vr vb rs b W hW
    unfold RunR at h
    rw [hrq, hhq] at h
    exact h
  have HE : Hid (befR rs a b = (hp && (hq && (rp.tt == rq.fr)))) := by show _ = _; unfold befR befP; rw [hrp, hrq, hhp, hhq]
  clear hrp hrq hhp hhq
  obtain ⟨pid, pop, pfr, ptt, pgr, pzn, pln⟩ := rp
  obtain ⟨qid, qop, qfr, qtt, qgr, qzn, qln⟩ := rq
  simp only at HCp HCq HE
  go_enter Try.func34, Try.ntmps34
  go_wp2_with fail
  have HBwb := (Blk.new w 27 #[vn, vl, vr, vb])
  have HLwb := (below_new w (.cells #[vn, vl, vr, vb] 27))
  have hswb : (w.alloc (.cells #[vn, vl, vr, vb] 27)).heap.size = w.heap.size + 1 := by simp
  generalize w.alloc (.cells #[vn, vl, vr, vb] 27) = wb at HBwb HLwb hswb ⊢
  replace HBwb := Lib.hid HBwb
  replace HLwb := Lib.hid HLwb
  have hlwb : w.heap.size < wb.heap.size := by omega
  replace hswb := Lib.hid hswb
  have HWb := Lib.hid (HLwb.out)
  have hl0 : w.heap.size ≤ wb.heap.size := HWb.out.size
  have HBb : Hid (Below wb.heap.size wb wb) := hide (Below.refl _ _)
  have hszb : wb.heap.size ≤ wb.heap.size := Nat.le_refl _
  have HX0b : Hid (Blk wb w.heap.size 27 #[vn, vl, vr, vb]) := hide HBwb.out
  have hxx0 : w.heap.size < wb.heap.size := HX0b.out.lt
  clear HBwb HLwb hswb hlwb
  have HMb := Lib.hid (HM.out.now HWb.out)
  go_wp2_with
    (first
     | (refine wpList_load_g 27 (.tmp 3) rfl rfl w.heap.size rfl _ _ HX0b.out _ Try.underlying27 rfl (by kernel_rfl) ?_))
  with_reducible refine (HCp.out _ HMb.out).mono ?_
  rintro e w1 ⟨rfl, hb1⟩
  have HB1 := Lib.hid (HBb.out.trans (hb1.mono hszb))
  have HW1 := Lib.hid (HWb.out.trans (hb1.mono HWb.out.size))
  have hsz1 : wb.heap.size ≤ w1.heap.size := Nat.le_trans hszb hb1.size
  have HX01 := Lib.hid (HX0b.out.below hb1 (Nat.lt_of_lt_of_le hxx0 hszb))
  have HM1 := Lib.hid (HMb.out.now hb1)
  clear hb1
  go_wp2_with
    (first
     | (refine wpList_store_blk rfl 60 (.tmp 7) (.tmp 15) rfl w1.heap.size #[.int .i64 pid, .int .i64 pop, .int .i64 pfr, .int .i64 ptt, .int .i64 pgr, .int .i64 pzn, .int .i64 pln] rfl rfl _ _ (Blk.new w1 60 #[.int .i64 0, .int .i64 0, .int .i64 0, .int .i64 0, .int .i64 0, .int .i64 0, .int .i64 0]) (by kernel_rfl) rfl (by simp [Value.oneCell']) ?_
        intro w2 hx2 hon2
        have hb2 := hon2.below (below_new w1 (.cells #[.int .i64 0, .int .i64 0, .int .i64 0, .int .i64 0, .int .i64 0, .int .i64 0, .int .i64 0] 60)) (Nat.le_refl _)
        have HLp2 := Lib.hid hx2
        have HB2 := Lib.hid (HB1.out.trans (hb2.mono hsz1))
        have HW2 := Lib.hid (HW1.out.trans (hb2.mono HW1.out.size))
        have hsz2 : wb.heap.size ≤ w2.heap.size := Nat.le_trans hsz1 hb2.size
        have HX02 := Lib.hid (HX01.out.below hb2 (Nat.lt_of_lt_of_le hxx0 hsz1))
        have HM2 := Lib.hid (HM1.out.now hb2)
        clear hx2 hon2 hb2)
     | (refine wpList_load_g 27 (.tmp 3) rfl rfl w.heap.size rfl _ _ HX02.out _ Try.underlying27 rfl (by kernel_rfl) ?_))
  with_reducible refine (HCq.out _ HM2.out).mono ?_
  rintro e w3 ⟨rfl, hb3⟩
  have HB3 := Lib.hid (HB2.out.trans (hb3.mono hsz2))
  have HW3 := Lib.hid (HW2.out.trans (hb3.mono HW2.out.size))
  have hsz3 : wb.heap.size ≤ w3.heap.size := Nat.le_trans hsz2 hb3.size
  have HX03 := Lib.hid (HX02.out.below hb3 (Nat.lt_of_lt_of_le hxx0 hsz2))
  have HLp3 := Lib.hid (HLp2.out.below hb3 HLp2.out.lt)
  have HM3 := Lib.hid (HM2.out.now hb3)
  clear hb3
  cases hp with
  | false =>
    go_wp2_with
      (first
       | (refine wpList_store_blk rfl 60 (.tmp 9) (.tmp 21) rfl w3.heap.size #[.int .i64 qid, .int .i64 qop, .int .i64 qfr, .int .i64 qtt, .int .i64 qgr, .int .i64 qzn, .int .i64 qln] rfl rfl _ _ (Blk.new w3 60 #[.int .i64 0, .int .i64 0, .int .i64 0, .int .i64 0, .int .i64 0, .int .i64 0, .int .i64 0]) (by kernel_rfl) rfl (by simp [Value.oneCell']) ?_
          intro w4 hx4 hon4
          have hb4 := hon4.below (below_new w3 (.cells #[.int .i64 0, .int .i64 0, .int .i64 0, .int .i64 0, .int .i64 0, .int .i64 0, .int .i64 0] 60)) (Nat.le_refl _)
          have HLq4 := Lib.hid hx4
          have HB4 := Lib.hid (HB3.out.trans (hb4.mono hsz3))
          have HW4 := Lib.hid (HW3.out.trans (hb4.mono HW3.out.size))
          have hsz4 : wb.heap.size ≤ w4.heap.size := Nat.le_trans hsz3 hb4.size
          have HX04 := Lib.hid (HX03.out.below hb4 (Nat.lt_of_lt_of_le hxx0 hsz3))
          have HLp4 := Lib.hid (HLp3.out.below hb4 HLp3.out.lt)
          have HM4 := Lib.hid (HM3.out.now hb4)
          have e3 : w4.cell? ⟨w1.heap.size, 3, none⟩ = some (.int .i64 ptt) := HLp4.out.cell 3
          have f2 : w4.cell? ⟨w3.heap.size, 2, none⟩ = some (.int .i64 qfr) := HLq4.out.cell 2
          clear hx4 hon4 hb4))
    go_ret
    exact ⟨ret_b HE.out.symm, HW4.out⟩
  | true =>
    cases hq with
    | false =>
      go_wp2_with
        (first
         | (refine wpList_store_blk rfl 60 (.tmp 9) (.tmp 21) rfl w3.heap.size #[.int .i64 qid, .int .i64 qop, .int .i64 qfr, .int .i64 qtt, .int .i64 qgr, .int .i64 qzn, .int .i64 qln] rfl rfl _ _ (Blk.new w3 60 #[.int .i64 0, .int .i64 0, .int .i64 0, .int .i64 0, .int .i64 0, .int .i64 0, .int .i64 0]) (by kernel_rfl) rfl (by simp [Value.oneCell']) ?_
            intro w4 hx4 hon4
            have hb4 := hon4.below (below_new w3 (.cells #[.int .i64 0, .int .i64 0, .int .i64 0, .int .i64 0, .int .i64 0, .int .i64 0, .int .i64 0] 60)) (Nat.le_refl _)
            have HLq4 := Lib.hid hx4
            have HB4 := Lib.hid (HB3.out.trans (hb4.mono hsz3))
            have HW4 := Lib.hid (HW3.out.trans (hb4.mono HW3.out.size))
            have hsz4 : wb.heap.size ≤ w4.heap.size := Nat.le_trans hsz3 hb4.size
            have HX04 := Lib.hid (HX03.out.below hb4 (Nat.lt_of_lt_of_le hxx0 hsz3))
            have HLp4 := Lib.hid (HLp3.out.below hb4 HLp3.out.lt)
            have HM4 := Lib.hid (HM3.out.now hb4)
            have e3 : w4.cell? ⟨w1.heap.size, 3, none⟩ = some (.int .i64 ptt) := HLp4.out.cell 3
            have f2 : w4.cell? ⟨w3.heap.size, 2, none⟩ = some (.int .i64 qfr) := HLq4.out.cell 2
            clear hx4 hon4 hb4))
      go_ret
      exact ⟨ret_b HE.out.symm, HW4.out⟩
    | true =>
      go_wp2_with
        (first
         | (refine wpList_store_blk rfl 60 (.tmp 9) (.tmp 21) rfl w3.heap.size #[.int .i64 qid, .int .i64 qop, .int .i64 qfr, .int .i64 qtt, .int .i64 qgr, .int .i64 qzn, .int .i64 qln] rfl rfl _ _ (Blk.new w3 60 #[.int .i64 0, .int .i64 0, .int .i64 0, .int .i64 0, .int .i64 0, .int .i64 0, .int .i64 0]) (by kernel_rfl) rfl (by simp [Value.oneCell']) ?_
            intro w4 hx4 hon4
            have hb4 := hon4.below (below_new w3 (.cells #[.int .i64 0, .int .i64 0, .int .i64 0, .int .i64 0, .int .i64 0, .int .i64 0, .int .i64 0] 60)) (Nat.le_refl _)
            have HLq4 := Lib.hid hx4
            have HB4 := Lib.hid (HB3.out.trans (hb4.mono hsz3))
            have HW4 := Lib.hid (HW3.out.trans (hb4.mono HW3.out.size))
            have hsz4 : wb.heap.size ≤ w4.heap.size := Nat.le_trans hsz3 hb4.size
            have HX04 := Lib.hid (HX03.out.below hb4 (Nat.lt_of_lt_of_le hxx0 hsz3))
            have HLp4 := Lib.hid (HLp3.out.below hb4 HLp3.out.lt)
            have HM4 := Lib.hid (HM3.out.now hb4)
            have e3 : w4.cell? ⟨w1.heap.size, 3, none⟩ = some (.int .i64 ptt) := HLp4.out.cell 3
            have f2 : w4.cell? ⟨w3.heap.size, 2, none⟩ = some (.int .i64 qfr) := HLq4.out.cell 2
            clear hx4 hon4 hb4))
      go_ret
      exact ⟨ret_b (by rw [HE.out]; rfl), HW4.out⟩
end Go.Proofs.Yticoeibccdplaaa
