/-
  SweepNext answers true for every input. Its conditions: none. (One heavy walk.)
-/
import Derived.Test.YticoeibccdplaaaRows
import Derived.Test.YticoeibccdplaaaRowS
import Derived.Test.YticoeibccdplaaaSwpR
import Derived.Test.YticoeibccdplaaaSwpX
import Derived.Test.YticoeibccdplaaaSwpZ
import Derived.Test.YticoeibccdplaaaSwpO
namespace Go.Proofs.Yticoeibccdplaaa
open Go.ChangeShapes Go.WideShapes Go.ChangeAt Go.RowKit

set_option maxRecDepth 100000 in
set_option maxHeartbeats 40000000 in
theorem sweepNext_any (w : World) (vn vl vr vb : Value) (nd : List Nd) (lf : List Lf) (rs : List Rn) (bs : List Int) (hnd : StrV Nd.cells 2 w w.heap.size vn nd) (hlf : StrV Lf.cells 8 w w.heap.size vl lf) (hrs : StrV Rn.cells 7 w w.heap.size vr rs) (hbs : RowV w w.heap.size vb bs) (v1 v2 : Value) (bg : Int) (runs : List Int) (sw : List Sw) (hru : RowV w w.heap.size v1 runs) (hsw : StrV Sw.cells 4 w w.heap.size v2 sw) (q : Sw) :
    Calls Try.prog 10 #[.agg #[vn, vl, vr, vb], .agg #[v1, v2, .int .i64 bg], .agg #[.int .i64 q.run, .int .i64 q.byy, .int .i64 q.att, .int .i64 q.fnd]] w fun e w' => e = .returned (.bool true) ∧ Below w.heap.size w w' := by
  have HNd := Lib.hid hnd
  have HLf := Lib.hid hlf
  have HM := Lib.hid hrs
  have HBv := Lib.hid hbs
  have HR1 := Lib.hid hru
  have HR2 := Lib.hid hsw
  clear hnd hlf hrs hbs hru hsw
  obtain ⟨run, byy, att, fnd⟩ := q
  dsimp only
  obtain ⟨A2, n2, c2, rfl, HL2, h21, h22, hr2⟩ := HR2.out.nam
  have HR2s := Lib.hid hr2
  have hn2 : n2 ≤ maxLen := Nat.le_trans h21 h22
  unfold maxLen at hn2
  clear hr2 h21 h22
  obtain ⟨r, hr⟩ : ∃ r, rightP rs bs runs bg sw = r := ⟨_, rfl⟩
  have HRr := Lib.hid hr
  have HCp : Hid (∀ W : World, StrV Rn.cells 7 W W.heap.size vr rs → RowV W W.heap.size vb bs → RowV W W.heap.size v1 runs → StrV Sw.cells 4 W W.heap.size (.slice A2 n2 c2) sw → Calls Try.prog 13 #[.agg #[vn, vl, vr, vb], .agg #[v1, .slice A2 n2 c2, .int .i64 bg]] W fun e w' => e = .returned (.int .i64 r) ∧ Below W.heap.size W w') := fun W a1 a2 a3 a4 => hr ▸ right_any vn vl vr vb _ _ bg rs bs runs sw W a1 a2 a3 a4
  clear hr
  go_enter Try.func10, Try.ntmps10
  go_wp2_with fail
  have HBwz0 := (Blk.new w 27 #[vn, vl, vr, vb])
  have HLwz0 := (below_new w (.cells #[vn, vl, vr, vb] 27))
  have hswz0 : (w.alloc (.cells #[vn, vl, vr, vb] 27)).heap.size = w.heap.size + 1 := by simp
  generalize w.alloc (.cells #[vn, vl, vr, vb] 27) = wz0 at HBwz0 HLwz0 hswz0 ⊢
  replace HBwz0 := Lib.hid HBwz0
  replace HLwz0 := Lib.hid HLwz0
  have hlwz0 : w.heap.size < wz0.heap.size := by omega
  replace hswz0 := Lib.hid hswz0
  have HBwz1 := (Blk.new wz0 30 #[v1, .slice A2 n2 c2, .int .i64 bg])
  have HLwz1 := (below_new wz0 (.cells #[v1, .slice A2 n2 c2, .int .i64 bg] 30))
  have hswz1 : (wz0.alloc (.cells #[v1, .slice A2 n2 c2, .int .i64 bg] 30)).heap.size = wz0.heap.size + 1 := by simp
  generalize wz0.alloc (.cells #[v1, .slice A2 n2 c2, .int .i64 bg] 30) = wz1 at HBwz1 HLwz1 hswz1 ⊢
  replace HBwz1 := Lib.hid HBwz1
  replace HLwz1 := Lib.hid HLwz1
  have hlwz1 : wz0.heap.size < wz1.heap.size := by omega
  replace hswz1 := Lib.hid hswz1
  have HBwb := (Blk.new wz1 39 #[.int .i64 run, .int .i64 byy, .int .i64 att, .int .i64 fnd])
  have HLwb := (below_new wz1 (.cells #[.int .i64 run, .int .i64 byy, .int .i64 att, .int .i64 fnd] 39))
  have hswb : (wz1.alloc (.cells #[.int .i64 run, .int .i64 byy, .int .i64 att, .int .i64 fnd] 39)).heap.size = wz1.heap.size + 1 := by simp
  generalize wz1.alloc (.cells #[.int .i64 run, .int .i64 byy, .int .i64 att, .int .i64 fnd] 39) = wb at HBwb HLwb hswb ⊢
  replace HBwb := Lib.hid HBwb
  replace HLwb := Lib.hid HLwb
  have hlwb : wz1.heap.size < wb.heap.size := by omega
  replace hswb := Lib.hid hswb
  have HQ1 := Lib.hid (HLwz0.out.trans (HLwz1.out.mono HLwz0.out.size))
  have HQ2 := Lib.hid (HQ1.out.trans (HLwb.out.mono HQ1.out.size))
  have HWb := Lib.hid (HQ2.out)
  have hl0 : w.heap.size ≤ wb.heap.size := HWb.out.size
  have HBb : Hid (Below wb.heap.size wb wb) := hide (Below.refl _ _)
  have hszb : wb.heap.size ≤ wb.heap.size := Nat.le_refl _
  have HZ0_1 := Lib.hid (HBwz0.out.below HLwz1.out hlwz0)
  have hz0_1 : w.heap.size < wz1.heap.size := HZ0_1.out.lt
  have HZ0_2 := Lib.hid (HZ0_1.out.below HLwb.out hz0_1)
  have hz0_2 : w.heap.size < wb.heap.size := HZ0_2.out.lt
  have HX0b : Hid (Blk wb w.heap.size 27 #[vn, vl, vr, vb]) := hide HZ0_2.out
  have hxx0 : w.heap.size < wb.heap.size := HX0b.out.lt
  have HZ1_2 := Lib.hid (HBwz1.out.below HLwb.out hlwz1)
  have hz1_2 : wz0.heap.size < wb.heap.size := HZ1_2.out.lt
  have HX1b : Hid (Blk wb (w.heap.size + 1) 30 #[v1, .slice A2 n2 c2, .int .i64 bg]) := hide (by have h := HZ1_2.out; rw [show wz0.heap.size = w.heap.size + 1 from by have := hswz0.out; omega] at h; exact h)
  have hxx1 : (w.heap.size + 1) < wb.heap.size := HX1b.out.lt
  have HX2b : Hid (Blk wb (w.heap.size + 1 + 1) 39 #[.int .i64 run, .int .i64 byy, .int .i64 att, .int .i64 fnd]) := hide (by have h := HBwb.out; rw [show wz1.heap.size = w.heap.size + 1 + 1 from by have := hswz0.out; have := hswz1.out; omega] at h; exact h)
  have hxx2 : (w.heap.size + 1 + 1) < wb.heap.size := HX2b.out.lt
  clear HBwz0 HLwz0 hswz0 hlwz0
  clear HBwz1 HLwz1 hswz1 hlwz1
  clear HBwb HLwb hswb hlwb
  have HNdb := Lib.hid (HNd.out.now HWb.out)
  have HLfb := Lib.hid (HLf.out.now HWb.out)
  have HMb := Lib.hid (HM.out.now HWb.out)
  have HBvb := Lib.hid (HBv.out.now HWb.out)
  have HR1b := Lib.hid (HR1.out.now HWb.out)
  have HR2b := Lib.hid (HR2.out.now HWb.out)
  have HR2sb := Lib.hid (HR2s.out.now HWb.out)
  with_reducible refine (alive_any _).mono ?_
  rintro e w1 ⟨rfl, hb1⟩
  have HB1 := Lib.hid (HBb.out.trans (hb1.mono hszb))
  have HW1 := Lib.hid (HWb.out.trans (hb1.mono HWb.out.size))
  have hsz1 : wb.heap.size ≤ w1.heap.size := Nat.le_trans hszb hb1.size
  have HX01 := Lib.hid (HX0b.out.below hb1 (Nat.lt_of_lt_of_le hxx0 hszb))
  have HX11 := Lib.hid (HX1b.out.below hb1 (Nat.lt_of_lt_of_le hxx1 hszb))
  have HX21 := Lib.hid (HX2b.out.below hb1 (Nat.lt_of_lt_of_le hxx2 hszb))
  have HNd1 := Lib.hid (HNdb.out.now hb1)
  have HLf1 := Lib.hid (HLfb.out.now hb1)
  have HM1 := Lib.hid (HMb.out.now hb1)
  have HBv1 := Lib.hid (HBvb.out.now hb1)
  have HR11 := Lib.hid (HR1b.out.now hb1)
  have HR21 := Lib.hid (HR2b.out.now hb1)
  have HR2s1 := Lib.hid (HR2sb.out.now hb1)
  clear hb1
  go_wp2_with
    (first
     | (refine wpList_load_g 27 (.tmp 3) rfl rfl w.heap.size rfl _ _ HX01.out _ Try.underlying27 rfl (by kernel_rfl) ?_))
  with_reducible refine (tright_any vn vl vr vb nd lf rs bs _ HNd1.out HLf1.out HM1.out HBv1.out).mono ?_
  rintro e w2 ⟨r2, rfl, _, hb2⟩
  have HB2 := Lib.hid (HB1.out.trans (hb2.mono hsz1))
  have HW2 := Lib.hid (HW1.out.trans (hb2.mono HW1.out.size))
  have hsz2 : wb.heap.size ≤ w2.heap.size := Nat.le_trans hsz1 hb2.size
  have HX02 := Lib.hid (HX01.out.below hb2 (Nat.lt_of_lt_of_le hxx0 hsz1))
  have HX12 := Lib.hid (HX11.out.below hb2 (Nat.lt_of_lt_of_le hxx1 hsz1))
  have HX22 := Lib.hid (HX21.out.below hb2 (Nat.lt_of_lt_of_le hxx2 hsz1))
  have HNd2 := Lib.hid (HNd1.out.now hb2)
  have HLf2 := Lib.hid (HLf1.out.now hb2)
  have HM2 := Lib.hid (HM1.out.now hb2)
  have HBv2 := Lib.hid (HBv1.out.now hb2)
  have HR12 := Lib.hid (HR11.out.now hb2)
  have HR22 := Lib.hid (HR21.out.now hb2)
  have HR2s2 := Lib.hid (HR2s1.out.now hb2)
  clear hb2
  by_cases hz2 : r2 = 0
  rotate_left
  · have d0 : (r2 == 0) = false := beq_eq_false_iff_ne.2 hz2
    go_wp2_with fail
    go_ret
    exact ⟨rfl, HW2.out⟩
  subst hz2
  go_wp2_with
    (first
     | (refine wpList_load_g 27 (.tmp 3) rfl rfl w.heap.size rfl _ _ HX02.out _ Try.underlying27 rfl (by kernel_rfl) ?_)
     | (refine wpList_load_g 30 (.tmp 4) rfl rfl (w.heap.size + 1) rfl _ _ HX12.out _ Try.underlying30 rfl (by kernel_rfl) ?_))
  with_reducible refine (HCp.out _ HM2.out HBv2.out HR12.out HR22.out).mono ?_
  rintro e w3 ⟨rfl, hb3⟩
  have HB3 := Lib.hid (HB2.out.trans (hb3.mono hsz2))
  have HW3 := Lib.hid (HW2.out.trans (hb3.mono HW2.out.size))
  have hsz3 : wb.heap.size ≤ w3.heap.size := Nat.le_trans hsz2 hb3.size
  have HX03 := Lib.hid (HX02.out.below hb3 (Nat.lt_of_lt_of_le hxx0 hsz2))
  have HX13 := Lib.hid (HX12.out.below hb3 (Nat.lt_of_lt_of_le hxx1 hsz2))
  have HX23 := Lib.hid (HX22.out.below hb3 (Nat.lt_of_lt_of_le hxx2 hsz2))
  have HNd3 := Lib.hid (HNd2.out.now hb3)
  have HLf3 := Lib.hid (HLf2.out.now hb3)
  have HM3 := Lib.hid (HM2.out.now hb3)
  have HBv3 := Lib.hid (HBv2.out.now hb3)
  have HR13 := Lib.hid (HR12.out.now hb3)
  have HR23 := Lib.hid (HR22.out.now hb3)
  have HR2s3 := Lib.hid (HR2s2.out.now hb3)
  clear hb3
  by_cases hz3 : r = 0
  rotate_left
  · have d0 : (r == 0) = false := beq_eq_false_iff_ne.2 hz3
    go_wp2_with fail
    go_ret
    exact ⟨rfl, HW3.out⟩
  have HR0 : Hid (rightP rs bs runs bg sw = 0) := hide (HRr.out.trans hz3)
  subst hz3
  obtain ⟨hlen, hall, hlow, hchk, hlen2, _⟩ := right_says ((right_eq rs bs runs bg sw).symm.trans HR0.out)
  have hlim : runs.length ≤ 1000 := by omega
  have hlim2 : sw.length ≤ 1000 := by omega
  have s0 : w3.cell? ⟨w.heap.size + 1, 0, none⟩ = some (v1) := HX13.out.cell 0
  have s1 : w3.cell? ⟨w.heap.size + 1, 1, none⟩ = some (.slice A2 n2 c2) := HX13.out.cell 1
  have s2 : w3.cell? ⟨w.heap.size + 1, 2, none⟩ = some (.int .i64 bg) := HX13.out.cell 2
  have q0 : w3.cell? ⟨w.heap.size + 1 + 1, 0, none⟩ = some (.int .i64 run) := HX23.out.cell 0
  have q1 : w3.cell? ⟨w.heap.size + 1 + 1, 1, none⟩ = some (.int .i64 byy) := HX23.out.cell 1
  have q2 : w3.cell? ⟨w.heap.size + 1 + 1, 2, none⟩ = some (.int .i64 att) := HX23.out.cell 2
  have q3 : w3.cell? ⟨w.heap.size + 1 + 1, 3, none⟩ = some (.int .i64 fnd) := HX23.out.cell 3
  by_cases g0 : byy < 1
  · go_wp2_with fail
    go_ret
    exact ⟨rfl, HW3.out⟩
  have d0 : decide (byy < 1) = false := decide_eq_false g0
  by_cases g1 : 9999 < byy
  · go_wp2_with fail
    go_ret
    exact ⟨rfl, HW3.out⟩
  have d1 : decide (9999 < byy) = false := decide_eq_false g1
  by_cases g2 : fnd < 0
  · go_wp2_with fail
    go_ret
    exact ⟨rfl, HW3.out⟩
  have d2 : decide (fnd < 0) = false := decide_eq_false g2
  by_cases g3 : 1000 < fnd
  · go_wp2_with fail
    go_ret
    exact ⟨rfl, HW3.out⟩
  have d3 : decide (1000 < fnd) = false := decide_eq_false g3
  by_cases g4 : att < bg
  · go_wp2_with fail
    go_ret
    exact ⟨rfl, HW3.out⟩
  have d4 : decide (att < bg) = false := decide_eq_false g4
  by_cases g5 : 20000000 < att
  · go_wp2_with fail
    go_ret
    exact ⟨rfl, HW3.out⟩
  have d5 : decide (20000000 < att) = false := decide_eq_false g5
  have HIn : Hid (InS bg ⟨run, byy, att, fnd⟩) := hide (by unfold InS; simp only; omega)
  have HL2' := Lib.hid HL2.out
  obtain ⟨bo, hbo⟩ : ∃ b, decide (0 < sw.length ∧ att < (sw.getD (sw.length - 1) sw0).att) = b := ⟨_, rfl⟩
  have HBo := Lib.hid hbo
  clear hbo
  go_wp2_with fail
  go_cut [69] (fun s wx => s = .bool bo ∧ Below w3.heap.size w3 wx)
  case first =>
    rcases Nat.eq_zero_or_pos n2 with hk0 | hk0
    · subst hk0
      have hb0 : bo = false := by rw [← HBo.out]; exact decide_eq_false (fun h => by have := h.1; rw [HL2.out] at this; omega)
      refine wp_region_held_drew (S := fun _ => True) (by kernel_rfl) (trivial) (fun hHeld => ?_)
      refine held_run 0 (some 56) (.move (.tmp 7)) ?v6_1_2 (by rfl) (by kernel_rfl) (by kernel_rfl) (by kernel_rfl) (fun _ _ _ h => h) (fun o ho w hS => ?y6_1_2) (by assumption) ?r6_1_2
      case y6_1_2 => (try dsimp only at hS); unfold execOp; simp only [ho]; go_simp; try with_reducible rfl
      try simp only [Act.put, List.setIfInBounds_toArray, List.set_cons_zero, List.set_cons_succ]
      refine held_run 1 (some 57) (.binOp .gtr 3 (.tmp 56) (.const (.int .i64 0)) 3) ?v6_1_3 (by rfl) (by kernel_rfl) (by kernel_rfl) (by kernel_rfl) (fun _ _ _ h => h) (fun o ho w hS => ?y6_1_3) (by assumption) ?r6_1_3
      case y6_1_3 => (try dsimp only at hS); unfold execOp; simp only [ho]; go_simp; try with_reducible rfl
      try simp only [Act.put, List.setIfInBounds_toArray, List.set_cons_zero, List.set_cons_succ]
      refine held_run 2 (some 58) (.move (.tmp 57)) ?v6_1_4 (by rfl) (by kernel_rfl) (by kernel_rfl) (by kernel_rfl) (fun _ _ _ h => h) (fun o ho w hS => ?y6_1_4) (by assumption) ?r6_1_4
      case y6_1_4 => (try dsimp only at hS); unfold execOp; simp only [ho]; go_simp; try with_reducible rfl
      try simp only [Act.put, List.setIfInBounds_toArray, List.set_cons_zero, List.set_cons_succ]
      refine held_skip 3 (some 59) (by rfl) (by kernel_rfl) (by kernel_rfl) (by kernel_rfl) (fun _ _ _ h => h) (by assumption) ?_
      try simp only [Act.put, List.setIfInBounds_toArray, List.set_cons_zero, List.set_cons_succ]
      refine held_skip 4 (some 60) (by rfl) (by kernel_rfl) (by kernel_rfl) (by kernel_rfl) (fun _ _ _ h => h) (by assumption) ?_
      try simp only [Act.put, List.setIfInBounds_toArray, List.set_cons_zero, List.set_cons_succ]
      refine held_skip 5 (some 61) (by rfl) (by kernel_rfl) (by kernel_rfl) (by kernel_rfl) (fun _ _ _ h => h) (by assumption) ?_
      try simp only [Act.put, List.setIfInBounds_toArray, List.set_cons_zero, List.set_cons_succ]
      refine held_skip 6 (some 62) (by rfl) (by kernel_rfl) (by kernel_rfl) (by kernel_rfl) (fun _ _ _ h => h) (by assumption) ?_
      try simp only [Act.put, List.setIfInBounds_toArray, List.set_cons_zero, List.set_cons_succ]
      refine held_skip 7 (some 63) (by rfl) (by kernel_rfl) (by kernel_rfl) (by kernel_rfl) (fun _ _ _ h => h) (by assumption) ?_
      try simp only [Act.put, List.setIfInBounds_toArray, List.set_cons_zero, List.set_cons_succ]
      refine held_skip 8 (some 64) (by rfl) (by kernel_rfl) (by kernel_rfl) (by kernel_rfl) (fun _ _ _ h => h) (by assumption) ?_
      try simp only [Act.put, List.setIfInBounds_toArray, List.set_cons_zero, List.set_cons_succ]
      refine held_skip 9 (some 65) (by rfl) (by kernel_rfl) (by kernel_rfl) (by kernel_rfl) (fun _ _ _ h => h) (by assumption) ?_
      try simp only [Act.put, List.setIfInBounds_toArray, List.set_cons_zero, List.set_cons_succ]
      refine held_skip 10 (some 66) (by rfl) (by kernel_rfl) (by kernel_rfl) (by kernel_rfl) (fun _ _ _ h => h) (by assumption) ?_
      try simp only [Act.put, List.setIfInBounds_toArray, List.set_cons_zero, List.set_cons_succ]
      refine held_skip 11 (some 67) (by rfl) (by kernel_rfl) (by kernel_rfl) (by kernel_rfl) (fun _ _ _ h => h) (by assumption) ?_
      try simp only [Act.put, List.setIfInBounds_toArray, List.set_cons_zero, List.set_cons_succ]
      refine held_skip 12 (some 68) (by rfl) (by kernel_rfl) (by kernel_rfl) (by kernel_rfl) (fun _ _ _ h => h) (by assumption) ?_
      try simp only [Act.put, List.setIfInBounds_toArray, List.set_cons_zero, List.set_cons_succ]
      refine held_run 13 (some 69) (.pick (.tmp 58) (.tmp 68) (.const (Value.bool false))) ?v6_1_15 (by rfl) (by kernel_rfl) (by kernel_rfl) (by kernel_rfl) (fun _ _ _ h => h) (fun o ho w hS => ?y6_1_15) (by assumption) ?r6_1_15
      case y6_1_15 => (try dsimp only at hS); unfold execOp; simp only [ho]; go_simp; try with_reducible rfl
      try simp only [Act.put, List.setIfInBounds_toArray, List.set_cons_zero, List.set_cons_succ]
      refine wpAnyH_done (by kernel_rfl) ?_ _
      go_wp2_with fail
      go_meet
      exact ⟨by rw [hb0], (Below.refl _ _).drew⟩
    · obtain ⟨k', hk'⟩ : ∃ k', n2 = k' + 1 := ⟨n2 - 1, by omega⟩
      obtain ⟨ad, rfl, hab, hcs⟩ := strs_at HR2s3.out (fun _ => rfl) HL2.out (show k' < n2 by omega) sw0
      have hb0 : bo = decide (att < (sw.getD k' sw0).att) := by
        rw [← HBo.out, HL2.out, show n2 - 1 = k' by omega]
        by_cases h : att < (sw.getD k' sw0).att
        · rw [decide_eq_true h]; exact decide_eq_true ⟨hk0, h⟩
        · rw [decide_eq_false h]; exact decide_eq_false (fun g => h g.2)
      generalize sw.getD k' sw0 = z at *
      obtain ⟨zr, zb, p, zf⟩ := z
      simp only at hb0
      have cp : w3.cell? ⟨(ad.add (k' * 4)).block, (ad.add (k' * 4)).off + 2, none⟩ = some (.int .i64 p) := hcs 2 _ rfl
      clear hcs
      have hj : (n2 : Int) - 1 = (k' : Int) := by omega
      have hkn : k' < n2 := by omega
      have dk : decide (0 < n2) = true := decide_eq_true hk0
      have hwr : IntKind.i64.wrap (k' : Int) = (k' : Int) := IntWalk.i64_in _ (by omega)
      clear hk'
      by_cases h3 : att < p
      · skip
        refine wp_region_held_drew (S := fun W => W.cell? ⟨w.heap.size + 1 + 1, 2, none⟩ = some (.int .i64 att) ∧ W.cell? ⟨w.heap.size + 1, 1, none⟩ = some (.slice (some ad) n2 c2) ∧ W.cell? ⟨(ad.add (k' * 4)).block, (ad.add (k' * 4)).off + 2, none⟩ = some (.int .i64 p)) (by kernel_rfl) (⟨q2, s1, cp⟩) (fun hHeld => ?_)
        refine held_run 0 (some 56) (.move (.tmp 7)) ?v6_16_17 (by rfl) (by kernel_rfl) (by kernel_rfl) (by kernel_rfl) (fun _ _ _ h => h) (fun o ho w hS => ?y6_16_17) (by assumption) ?r6_16_17
        case y6_16_17 => (try dsimp only at hS); unfold execOp; simp only [ho]; go_simp; try with_reducible rfl
        try simp only [Act.put, List.setIfInBounds_toArray, List.set_cons_zero, List.set_cons_succ]
        refine held_run 1 (some 57) (.binOp .gtr 3 (.tmp 56) (.const (.int .i64 0)) 3) ?v6_16_18 (by rfl) (by kernel_rfl) (by kernel_rfl) (by kernel_rfl) (fun _ _ _ h => h) (fun o ho w hS => ?y6_16_18) (by assumption) ?r6_16_18
        case y6_16_18 => (try dsimp only at hS); unfold execOp; simp only [ho]; go_simp; try with_reducible rfl
        try simp only [Act.put, List.setIfInBounds_toArray, List.set_cons_zero, List.set_cons_succ]
        refine held_run 2 (some 58) (.move (.tmp 57)) ?v6_16_19 (by rfl) (by kernel_rfl) (by kernel_rfl) (by kernel_rfl) (fun _ _ _ h => h) (fun o ho w hS => ?y6_16_19) (by assumption) ?r6_16_19
        case y6_16_19 => (try dsimp only at hS); unfold execOp; simp only [ho]; go_simp; try with_reducible rfl
        try simp only [Act.put, List.setIfInBounds_toArray, List.set_cons_zero, List.set_cons_succ]
        refine held_run 3 (some 59) (.fieldAddr 39 (.tmp 5) 2) ?v6_16_20 (by rfl) (by kernel_rfl) (by kernel_rfl) (by kernel_rfl) (fun _ _ _ h => h) (fun o ho w hS => ?y6_16_20) (by assumption) ?r6_16_20
        case y6_16_20 => (try dsimp only at hS); unfold execOp; simp only [ho]; go_simp; try with_reducible rfl
        try simp only [Act.put, List.setIfInBounds_toArray, List.set_cons_zero, List.set_cons_succ]
        refine held_run 4 (some 60) (.load 3 (.tmp 59)) ?v6_16_21 (by rfl) (by kernel_rfl) (by kernel_rfl) (by kernel_rfl) (fun _ _ _ h => h) (fun o ho w hS => ?y6_16_21) (by assumption) ?r6_16_21
        case y6_16_21 => (try dsimp only at hS); unfold execOp; simp only [ho]; go_simp; try with_reducible rfl
        try simp only [Act.put, List.setIfInBounds_toArray, List.set_cons_zero, List.set_cons_succ]
        refine held_run 5 (some 61) (.fieldAddr 30 (.tmp 4) 1) ?v6_16_22 (by rfl) (by kernel_rfl) (by kernel_rfl) (by kernel_rfl) (fun _ _ _ h => h) (fun o ho w hS => ?y6_16_22) (by assumption) ?r6_16_22
        case y6_16_22 => (try dsimp only at hS); unfold execOp; simp only [ho]; go_simp; try with_reducible rfl
        try simp only [Act.put, List.setIfInBounds_toArray, List.set_cons_zero, List.set_cons_succ]
        refine held_run 6 (some 62) (.load 28 (.tmp 61)) ?v6_16_23 (by rfl) (by kernel_rfl) (by kernel_rfl) (by kernel_rfl) (fun _ _ _ h => h) (fun o ho w hS => ?y6_16_23) (by assumption) ?r6_16_23
        case y6_16_23 => (try dsimp only at hS); unfold execOp; simp only [ho]; go_simp; try with_reducible rfl
        try simp only [Act.put, List.setIfInBounds_toArray, List.set_cons_zero, List.set_cons_succ]
        refine held_run 7 (some 63) (.move (.tmp 7)) ?v6_16_24 (by rfl) (by kernel_rfl) (by kernel_rfl) (by kernel_rfl) (fun _ _ _ h => h) (fun o ho w hS => ?y6_16_24) (by assumption) ?r6_16_24
        case y6_16_24 => (try dsimp only at hS); unfold execOp; simp only [ho]; go_simp; try with_reducible rfl
        try simp only [Act.put, List.setIfInBounds_toArray, List.set_cons_zero, List.set_cons_succ]
        refine held_run 8 (some 64) (.binOp .sub 3 (.tmp 63) (.const (.int .i64 1)) 3) ?v6_16_25 (by rfl) (by kernel_rfl) (by kernel_rfl) (by kernel_rfl) (fun _ _ _ h => h) (fun o ho w hS => ?y6_16_25) (by assumption) ?r6_16_25
        case y6_16_25 => (try dsimp only at hS); unfold execOp; simp only [ho]; go_simp; try with_reducible rfl
        try simp only [Act.put, List.setIfInBounds_toArray, List.set_cons_zero, List.set_cons_succ]
        refine held_run 9 (some 65) (.indexAddr 28 (.tmp 62) (.tmp 64)) ?v6_16_26 (by rfl) (by kernel_rfl) (by kernel_rfl) (by kernel_rfl) (fun _ _ _ h => h) (fun o ho w hS => ?y6_16_26) (by assumption) ?r6_16_26
        case y6_16_26 => (try dsimp only at hS); unfold execOp; simp only [ho]; go_simp; try with_reducible rfl
        try simp only [Act.put, List.setIfInBounds_toArray, List.set_cons_zero, List.set_cons_succ]
        refine held_run 10 (some 66) (.fieldAddr 39 (.tmp 65) 2) ?v6_16_27 (by rfl) (by kernel_rfl) (by kernel_rfl) (by kernel_rfl) (fun _ _ _ h => h) (fun o ho w hS => ?y6_16_27) (by assumption) ?r6_16_27
        case y6_16_27 => (try dsimp only at hS); unfold execOp; simp only [ho]; go_simp; try with_reducible rfl
        try simp only [Act.put, List.setIfInBounds_toArray, List.set_cons_zero, List.set_cons_succ]
        refine held_run 11 (some 67) (.load 3 (.tmp 66)) ?v6_16_28 (by rfl) (by kernel_rfl) (by kernel_rfl) (by kernel_rfl) (fun _ _ _ h => h) (fun o ho w hS => ?y6_16_28) (by assumption) ?r6_16_28
        case y6_16_28 => (try dsimp only at hS); unfold execOp; simp only [ho]; go_simp; try with_reducible rfl
        try simp only [Act.put, List.setIfInBounds_toArray, List.set_cons_zero, List.set_cons_succ]
        refine held_run 12 (some 68) (.binOp .lss 3 (.tmp 60) (.tmp 67) 3) ?v6_16_29 (by rfl) (by kernel_rfl) (by kernel_rfl) (by kernel_rfl) (fun _ _ _ h => h) (fun o ho w hS => ?y6_16_29) (by assumption) ?r6_16_29
        case y6_16_29 => (try dsimp only at hS); unfold execOp; simp only [ho]; go_simp; try with_reducible rfl
        try simp only [Act.put, List.setIfInBounds_toArray, List.set_cons_zero, List.set_cons_succ]
        refine held_run 13 (some 69) (.pick (.tmp 58) (.tmp 68) (.const (Value.bool false))) ?v6_16_30 (by rfl) (by kernel_rfl) (by kernel_rfl) (by kernel_rfl) (fun _ _ _ h => h) (fun o ho w hS => ?y6_16_30) (by assumption) ?r6_16_30
        case y6_16_30 => (try dsimp only at hS); unfold execOp; simp only [ho]; go_simp; try with_reducible rfl
        try simp only [Act.put, List.setIfInBounds_toArray, List.set_cons_zero, List.set_cons_succ]
        refine wpAnyH_done (by kernel_rfl) ?_ _
        clear hwr
        go_wp2_with fail
        go_meet
        exact ⟨by rw [hb0, decide_eq_true h3], (Below.refl _ _).drew⟩
      · have d9 : decide (att < p) = false := decide_eq_false h3
        refine wp_region_held_drew (S := fun W => W.cell? ⟨w.heap.size + 1 + 1, 2, none⟩ = some (.int .i64 att) ∧ W.cell? ⟨w.heap.size + 1, 1, none⟩ = some (.slice (some ad) n2 c2) ∧ W.cell? ⟨(ad.add (k' * 4)).block, (ad.add (k' * 4)).off + 2, none⟩ = some (.int .i64 p)) (by kernel_rfl) (⟨q2, s1, cp⟩) (fun hHeld => ?_)
        refine held_run 0 (some 56) (.move (.tmp 7)) ?v6_31_32 (by rfl) (by kernel_rfl) (by kernel_rfl) (by kernel_rfl) (fun _ _ _ h => h) (fun o ho w hS => ?y6_31_32) (by assumption) ?r6_31_32
        case y6_31_32 => (try dsimp only at hS); unfold execOp; simp only [ho]; go_simp; try with_reducible rfl
        try simp only [Act.put, List.setIfInBounds_toArray, List.set_cons_zero, List.set_cons_succ]
        refine held_run 1 (some 57) (.binOp .gtr 3 (.tmp 56) (.const (.int .i64 0)) 3) ?v6_31_33 (by rfl) (by kernel_rfl) (by kernel_rfl) (by kernel_rfl) (fun _ _ _ h => h) (fun o ho w hS => ?y6_31_33) (by assumption) ?r6_31_33
        case y6_31_33 => (try dsimp only at hS); unfold execOp; simp only [ho]; go_simp; try with_reducible rfl
        try simp only [Act.put, List.setIfInBounds_toArray, List.set_cons_zero, List.set_cons_succ]
        refine held_run 2 (some 58) (.move (.tmp 57)) ?v6_31_34 (by rfl) (by kernel_rfl) (by kernel_rfl) (by kernel_rfl) (fun _ _ _ h => h) (fun o ho w hS => ?y6_31_34) (by assumption) ?r6_31_34
        case y6_31_34 => (try dsimp only at hS); unfold execOp; simp only [ho]; go_simp; try with_reducible rfl
        try simp only [Act.put, List.setIfInBounds_toArray, List.set_cons_zero, List.set_cons_succ]
        refine held_run 3 (some 59) (.fieldAddr 39 (.tmp 5) 2) ?v6_31_35 (by rfl) (by kernel_rfl) (by kernel_rfl) (by kernel_rfl) (fun _ _ _ h => h) (fun o ho w hS => ?y6_31_35) (by assumption) ?r6_31_35
        case y6_31_35 => (try dsimp only at hS); unfold execOp; simp only [ho]; go_simp; try with_reducible rfl
        try simp only [Act.put, List.setIfInBounds_toArray, List.set_cons_zero, List.set_cons_succ]
        refine held_run 4 (some 60) (.load 3 (.tmp 59)) ?v6_31_36 (by rfl) (by kernel_rfl) (by kernel_rfl) (by kernel_rfl) (fun _ _ _ h => h) (fun o ho w hS => ?y6_31_36) (by assumption) ?r6_31_36
        case y6_31_36 => (try dsimp only at hS); unfold execOp; simp only [ho]; go_simp; try with_reducible rfl
        try simp only [Act.put, List.setIfInBounds_toArray, List.set_cons_zero, List.set_cons_succ]
        refine held_run 5 (some 61) (.fieldAddr 30 (.tmp 4) 1) ?v6_31_37 (by rfl) (by kernel_rfl) (by kernel_rfl) (by kernel_rfl) (fun _ _ _ h => h) (fun o ho w hS => ?y6_31_37) (by assumption) ?r6_31_37
        case y6_31_37 => (try dsimp only at hS); unfold execOp; simp only [ho]; go_simp; try with_reducible rfl
        try simp only [Act.put, List.setIfInBounds_toArray, List.set_cons_zero, List.set_cons_succ]
        refine held_run 6 (some 62) (.load 28 (.tmp 61)) ?v6_31_38 (by rfl) (by kernel_rfl) (by kernel_rfl) (by kernel_rfl) (fun _ _ _ h => h) (fun o ho w hS => ?y6_31_38) (by assumption) ?r6_31_38
        case y6_31_38 => (try dsimp only at hS); unfold execOp; simp only [ho]; go_simp; try with_reducible rfl
        try simp only [Act.put, List.setIfInBounds_toArray, List.set_cons_zero, List.set_cons_succ]
        refine held_run 7 (some 63) (.move (.tmp 7)) ?v6_31_39 (by rfl) (by kernel_rfl) (by kernel_rfl) (by kernel_rfl) (fun _ _ _ h => h) (fun o ho w hS => ?y6_31_39) (by assumption) ?r6_31_39
        case y6_31_39 => (try dsimp only at hS); unfold execOp; simp only [ho]; go_simp; try with_reducible rfl
        try simp only [Act.put, List.setIfInBounds_toArray, List.set_cons_zero, List.set_cons_succ]
        refine held_run 8 (some 64) (.binOp .sub 3 (.tmp 63) (.const (.int .i64 1)) 3) ?v6_31_40 (by rfl) (by kernel_rfl) (by kernel_rfl) (by kernel_rfl) (fun _ _ _ h => h) (fun o ho w hS => ?y6_31_40) (by assumption) ?r6_31_40
        case y6_31_40 => (try dsimp only at hS); unfold execOp; simp only [ho]; go_simp; try with_reducible rfl
        try simp only [Act.put, List.setIfInBounds_toArray, List.set_cons_zero, List.set_cons_succ]
        refine held_run 9 (some 65) (.indexAddr 28 (.tmp 62) (.tmp 64)) ?v6_31_41 (by rfl) (by kernel_rfl) (by kernel_rfl) (by kernel_rfl) (fun _ _ _ h => h) (fun o ho w hS => ?y6_31_41) (by assumption) ?r6_31_41
        case y6_31_41 => (try dsimp only at hS); unfold execOp; simp only [ho]; go_simp; try with_reducible rfl
        try simp only [Act.put, List.setIfInBounds_toArray, List.set_cons_zero, List.set_cons_succ]
        refine held_run 10 (some 66) (.fieldAddr 39 (.tmp 65) 2) ?v6_31_42 (by rfl) (by kernel_rfl) (by kernel_rfl) (by kernel_rfl) (fun _ _ _ h => h) (fun o ho w hS => ?y6_31_42) (by assumption) ?r6_31_42
        case y6_31_42 => (try dsimp only at hS); unfold execOp; simp only [ho]; go_simp; try with_reducible rfl
        try simp only [Act.put, List.setIfInBounds_toArray, List.set_cons_zero, List.set_cons_succ]
        refine held_run 11 (some 67) (.load 3 (.tmp 66)) ?v6_31_43 (by rfl) (by kernel_rfl) (by kernel_rfl) (by kernel_rfl) (fun _ _ _ h => h) (fun o ho w hS => ?y6_31_43) (by assumption) ?r6_31_43
        case y6_31_43 => (try dsimp only at hS); unfold execOp; simp only [ho]; go_simp; try with_reducible rfl
        try simp only [Act.put, List.setIfInBounds_toArray, List.set_cons_zero, List.set_cons_succ]
        refine held_run 12 (some 68) (.binOp .lss 3 (.tmp 60) (.tmp 67) 3) ?v6_31_44 (by rfl) (by kernel_rfl) (by kernel_rfl) (by kernel_rfl) (fun _ _ _ h => h) (fun o ho w hS => ?y6_31_44) (by assumption) ?r6_31_44
        case y6_31_44 => (try dsimp only at hS); unfold execOp; simp only [ho]; go_simp; try with_reducible rfl
        try simp only [Act.put, List.setIfInBounds_toArray, List.set_cons_zero, List.set_cons_succ]
        refine held_run 13 (some 69) (.pick (.tmp 58) (.tmp 68) (.const (Value.bool false))) ?v6_31_45 (by rfl) (by kernel_rfl) (by kernel_rfl) (by kernel_rfl) (fun _ _ _ h => h) (fun o ho w hS => ?y6_31_45) (by assumption) ?r6_31_45
        case y6_31_45 => (try dsimp only at hS); unfold execOp; simp only [ho]; go_simp; try with_reducible rfl
        try simp only [Act.put, List.setIfInBounds_toArray, List.set_cons_zero, List.set_cons_succ]
        refine wpAnyH_done (by kernel_rfl) ?_ _
        clear hwr
        go_wp2_with fail
        go_meet
        exact ⟨by rw [hb0, d9], (Below.refl _ _).drew⟩
  obtain ⟨rfl, hcut⟩ := hcut
  clear s0 s1 s2 q0 q1 q2 q3 g0 g1 g2 g3 g4 g5 d0 d1 d2 d3 d4 d5
  have HBc := Lib.hid (HB3.out.trans (hcut.mono hsz3))
  have HWc := Lib.hid (HW3.out.trans (hcut.mono HW3.out.size))
  have hszc : wb.heap.size ≤ wc.heap.size := Nat.le_trans hsz3 hcut.size
  have HX0c := Lib.hid (HX03.out.below hcut (Nat.lt_of_lt_of_le hxx0 hsz3))
  have HX1c := Lib.hid (HX13.out.below hcut (Nat.lt_of_lt_of_le hxx1 hsz3))
  have HX2c := Lib.hid (HX23.out.below hcut (Nat.lt_of_lt_of_le hxx2 hsz3))
  have HNdc := Lib.hid (HNd3.out.now hcut)
  have HLfc := Lib.hid (HLf3.out.now hcut)
  have HMc := Lib.hid (HM3.out.now hcut)
  have HBvc := Lib.hid (HBv3.out.now hcut)
  have HR1c := Lib.hid (HR13.out.now hcut)
  have HR2c := Lib.hid (HR23.out.now hcut)
  have HR2sc := Lib.hid (HR2s3.out.now hcut)
  clear hcut
  have hwc : wc = wc := rfl
  cases bo with
  | true =>
    go_wp2_with fail
    go_ret
    exact ⟨rfl, HWc.out⟩
  | false =>
    have HNo : Hid (¬ (0 < sw.length ∧ att < (sw.getD (sw.length - 1) sw0).att)) := hide (of_decide_eq_false HBo.out)
    clear HBo
    have HIff := Lib.hid (rightG_snoc (q := ⟨run, byy, att, fnd⟩) (show rightG (hasR rs) (befP rs) (outP rs bs) runs bg sw = 0 from HR0.out))
    have HDo := fun W a1 a2 a3 a4 => Lib.hid (do_any vn vl vr vb v1 (.slice A2 n2 c2) (.slice none 0 0) bg rs bs runs [] sw ⟨run, byy, att, fnd⟩ W a1 a2 a3 a4 (rowV_nil _ _) hlim hlim2)
    obtain ⟨R, hR⟩ : ∃ x, readyL (befP rs) runs (sw.map Sw.run) = x := ⟨_, rfl⟩
    have HRd := Lib.hid hR
    rw [hR] at HIff
    clear hR
    obtain ⟨r', hr'⟩ : ∃ x, rightG (hasR rs) (befP rs) (outP rs bs) runs bg (sw ++ [⟨run, byy, att, fnd⟩]) = x := ⟨_, rfl⟩
    have HR' := Lib.hid hr'
    rw [hr'] at HIff
    clear hr'
    have HCt : Hid (R.contains run = decide (r' = 0)) := by
      by_cases h : r' = 0
      · rw [decide_eq_true h]
        exact hide (by simpa using (HIff.out.1 h).1)
      · rw [decide_eq_false h]
        refine hide ?_
        cases hc : R.contains run with
        | false => rfl
        | true => exact absurd (HIff.out.2 ⟨by simpa using hc, HIn.out, HNo.out⟩) h
    have HCn : Hid (∀ W : World, StrV Rn.cells 7 W W.heap.size vr rs → RowV W W.heap.size v1 runs → StrV Sw.cells 4 W W.heap.size (.slice A2 n2 c2) sw → Calls Try.prog 19 #[.agg #[vn, vl, vr, vb], .agg #[v1, .slice A2 n2 c2, .int .i64 bg]] W fun e w' => ∃ A n c, e = .returned (.slice A n c) ∧ n ≤ maxLen ∧ Ints w' w'.heap.size A n R ∧ Below W.heap.size W w') := fun W a1 a2 a3 => by
      refine (next_any vn vl vr vb v1 _ bg rs runs sw W a1 a2 a3 hlim hlim2).mono ?_
      rintro e w' ⟨v, rfl, ho, hb⟩
      rw [HRd.out] at ho
      obtain ⟨A, n, c, rfl, _, h1, h2, h3⟩ := ho.rowV.nam
      exact ⟨A, n, c, rfl, Nat.le_trans h1 h2, h3, hb⟩
    go_wp2_with
      (first
       | (refine wpList_load_g 27 (.tmp 3) rfl rfl w.heap.size rfl _ _ HX0c.out _ Try.underlying27 rfl (by kernel_rfl) ?_)
       | (refine wpList_load_g 30 (.tmp 4) rfl rfl (w.heap.size + 1) rfl _ _ HX1c.out _ Try.underlying30 rfl (by kernel_rfl) ?_)
       | (refine wpList_load_g 39 (.tmp 5) rfl rfl (w.heap.size + 1 + 1) rfl _ _ HX2c.out _ Try.underlying39 rfl (by kernel_rfl) ?_))
    with_reducible refine ((HDo _ HMc.out HBvc.out HR1c.out HR2c.out).out).mono ?_
    rintro e w4 ⟨hb4, ⟨h, _⟩ | ⟨_, hne, rfl⟩ | ⟨_, h0', x, y, rfl, hx4, hy4⟩⟩
    · exact absurd h (by simp)
    · rw [HR'.out] at hne ⊢
      have HB4 := Lib.hid (HBc.out.trans (hb4.mono hszc))
      have HW4 := Lib.hid (HWc.out.trans (hb4.mono HWc.out.size))
      have hsz4 : wb.heap.size ≤ w4.heap.size := Nat.le_trans hszc hb4.size
      have HX04 := Lib.hid (HX0c.out.below hb4 (Nat.lt_of_lt_of_le hxx0 hszc))
      have HX14 := Lib.hid (HX1c.out.below hb4 (Nat.lt_of_lt_of_le hxx1 hszc))
      have HX24 := Lib.hid (HX2c.out.below hb4 (Nat.lt_of_lt_of_le hxx2 hszc))
      have HNd4 := Lib.hid (HNdc.out.now hb4)
      have HLf4 := Lib.hid (HLfc.out.now hb4)
      have HM4 := Lib.hid (HMc.out.now hb4)
      have HBv4 := Lib.hid (HBvc.out.now hb4)
      have HR14 := Lib.hid (HR1c.out.now hb4)
      have HR24 := Lib.hid (HR2c.out.now hb4)
      have HR2s4 := Lib.hid (HR2sc.out.now hb4)
      clear hb4
      go_wp2_with
        (first
         | (refine wpList_store_blk rfl 30 (.tmp 8) (.tmp 75) rfl w4.heap.size #[.slice none 0 0, .slice none 0 0, .int .i64 0] rfl rfl _ _ (Blk.new w4 30 #[.slice none 0 0, .slice none 0 0, .int .i64 0]) (by kernel_rfl) rfl (by simp [Value.oneCell']) ?_
            intro w5 hx5 hon5
            have hb5 := hon5.below (below_new w4 (.cells #[.slice none 0 0, .slice none 0 0, .int .i64 0] 30)) (Nat.le_refl _)
            have HE5 := Lib.hid hx5
            have HB5 := Lib.hid (HB4.out.trans (hb5.mono hsz4))
            have HW5 := Lib.hid (HW4.out.trans (hb5.mono HW4.out.size))
            have hsz5 : wb.heap.size ≤ w5.heap.size := Nat.le_trans hsz4 hb5.size
            have HX05 := Lib.hid (HX04.out.below hb5 (Nat.lt_of_lt_of_le hxx0 hsz4))
            have HX15 := Lib.hid (HX14.out.below hb5 (Nat.lt_of_lt_of_le hxx1 hsz4))
            have HX25 := Lib.hid (HX24.out.below hb5 (Nat.lt_of_lt_of_le hxx2 hsz4))
            have HNd5 := Lib.hid (HNd4.out.now hb5)
            have HLf5 := Lib.hid (HLf4.out.now hb5)
            have HM5 := Lib.hid (HM4.out.now hb5)
            have HBv5 := Lib.hid (HBv4.out.now hb5)
            have HR15 := Lib.hid (HR14.out.now hb5)
            have HR25 := Lib.hid (HR24.out.now hb5)
            have HR2s5 := Lib.hid (HR2s4.out.now hb5)
            clear hx5 hon5 hb5))
      have HS : Hid (∀ W, Below w5.heap.size w5 W → (fun W => Below w5.heap.size w5 W ∧ Blk W w.heap.size 27 #[vn, vl, vr, vb] ∧ Blk W (w.heap.size + 1) 30 #[v1, .slice A2 n2 c2, .int .i64 bg] ∧ W.cell? ⟨w.heap.size + 1 + 1, 0, none⟩ = some (.int .i64 run)) W) := fun W hB => ⟨hB, HX05.out.below hB (Nat.lt_of_lt_of_le hxx0 hsz5), HX15.out.below hB (Nat.lt_of_lt_of_le hxx1 hsz5), (HX25.out.below hB (Nat.lt_of_lt_of_le hxx2 hsz5)).cell 0⟩
      have h0 := HS.out _ ((Below.refl w5.heap.size w5).drew)
      have HM5d : Hid (StrV Rn.cells 7 w5.drew w5.drew.heap.size vr rs) := hide HM5.out
      have HR15d : Hid (RowV w5.drew w5.drew.heap.size v1 runs) := hide HR15.out
      have HR25d : Hid (StrV Sw.cells 4 w5.drew w5.drew.heap.size (.slice A2 n2 c2) sw) := hide HR25.out
      have hcr : R.contains run = false := by rw [HCt.out]; exact decide_eq_false hne
      have d0 : (r' == 0) = false := beq_eq_false_iff_ne.2 hne
      have d1 : (r' != 0) = true := by simp [hne]
      go_wp2_with fail
      refine wp_region_held_drew (S := fun W => Below w5.heap.size w5 W ∧ Blk W w.heap.size 27 #[vn, vl, vr, vb] ∧ Blk W (w.heap.size + 1) 30 #[v1, .slice A2 n2 c2, .int .i64 bg] ∧ W.cell? ⟨w.heap.size + 1 + 1, 0, none⟩ = some (.int .i64 run)) (by kernel_rfl) (h0) (fun hHeld => ?_)
      refine held_run 0 (some 77) (.move (.tmp 9)) ?v9_46_47 (by rfl) (by kernel_rfl) (by kernel_rfl) (by kernel_rfl) (fun _ _ _ h => h) (fun o ho w hS => ?y9_46_47) (by assumption) ?r9_46_47
      case y9_46_47 => (try dsimp only at hS); unfold execOp; simp only [ho]; go_simp; try with_reducible rfl
      try simp only [Act.put, List.setIfInBounds_toArray, List.set_cons_zero, List.set_cons_succ]
      refine held_run 1 (some 78) (.binOp .eql 32 (.tmp 77) (.const (.int .i64 0)) 32) ?v9_46_48 (by rfl) (by kernel_rfl) (by kernel_rfl) (by kernel_rfl) (fun _ _ _ h => h) (fun o ho w hS => ?y9_46_48) (by assumption) ?r9_46_48
      case y9_46_48 => (try dsimp only at hS); unfold execOp; simp only [ho]; go_simp; try with_reducible rfl
      try simp only [Act.put, List.setIfInBounds_toArray, List.set_cons_zero, List.set_cons_succ]
      refine held_load 2 (some 79) 27 (.tmp 3) (by rfl) (by kernel_rfl) (by kernel_rfl) (by kernel_rfl) (w.heap.size) 27 #[vn, vl, vr, vb] (fun _ _ _ h => h) (by rfl) (fun _ h => h.2.1) _ Try.underlying27 rfl (by kernel_rfl) (by assumption) ?_
      try simp only [Act.put, List.setIfInBounds_toArray, List.set_cons_zero, List.set_cons_succ]
      refine held_load 3 (some 80) 30 (.tmp 4) (by rfl) (by kernel_rfl) (by kernel_rfl) (by kernel_rfl) (w.heap.size + 1) 30 #[v1, .slice A2 n2 c2, .int .i64 bg] (fun _ _ _ h => h) (by rfl) (fun _ h => h.2.2.1) _ Try.underlying30 rfl (by kernel_rfl) (by assumption) ?_
      try simp only [Act.put, List.setIfInBounds_toArray, List.set_cons_zero, List.set_cons_succ]
      refine held_run 5 (some 82) (.fieldAddr 39 (.tmp 5) 0) ?v9_46_51 (by rfl) (by kernel_rfl) (by kernel_rfl) (by kernel_rfl) (fun _ _ _ h => h) (fun o ho w hS => ?y9_46_51) (by assumption) ?r9_46_51
      case y9_46_51 => (try dsimp only at hS); unfold execOp; simp only [ho]; go_simp; try with_reducible rfl
      try simp only [Act.put, List.setIfInBounds_toArray, List.set_cons_zero, List.set_cons_succ]
      refine held_run 6 (some 83) (.load 3 (.tmp 82)) ?v9_46_52 (by rfl) (by kernel_rfl) (by kernel_rfl) (by kernel_rfl) (fun _ _ _ h => h) (fun o ho w hS => ?y9_46_52) (by assumption) ?r9_46_52
      case y9_46_52 => (try dsimp only at hS); unfold execOp; simp only [ho]; go_simp; try with_reducible rfl
      try simp only [Act.put, List.setIfInBounds_toArray, List.set_cons_zero, List.set_cons_succ]
      refine held_call 4 (some 81) 19 [(.tmp 79), (.tmp 80)] #[27, 30] #[.agg #[vn, vl, vr, vb], .agg #[v1, .slice A2 n2 c2, .int .i64 bg]] (by rfl) (by rfl) (by kernel_rfl) Try.func19 (by rfl) (by rfl) ?_
      refine (HCn.out _ HM5d.out HR15d.out HR25d.out).mono ?_
      rintro e w6 ⟨An, nn, cn, rfl, hnn, hri, hb6⟩
      have hbb6 : Below w5.heap.size w5 w6 := (Below.refl w5.heap.size w5).drew.trans hb6
      have HRi := Lib.hid hri
      have HB6 := Lib.hid (HB5.out.trans (hbb6.mono hsz5))
      have HW6 := Lib.hid (HW5.out.trans (hbb6.mono HW5.out.size))
      have hsz6 : wb.heap.size ≤ w6.heap.size := Nat.le_trans hsz5 hbb6.size
      have HX06 := Lib.hid (HX05.out.below hbb6 (Nat.lt_of_lt_of_le hxx0 hsz5))
      have HX16 := Lib.hid (HX15.out.below hbb6 (Nat.lt_of_lt_of_le hxx1 hsz5))
      have HX26 := Lib.hid (HX25.out.below hbb6 (Nat.lt_of_lt_of_le hxx2 hsz5))
      have HNd6 := Lib.hid (HNd5.out.now hbb6)
      have HLf6 := Lib.hid (HLf5.out.now hbb6)
      have HM6 := Lib.hid (HM5.out.now hbb6)
      have HBv6 := Lib.hid (HBv5.out.now hbb6)
      have HR16 := Lib.hid (HR15.out.now hbb6)
      have HR26 := Lib.hid (HR25.out.now hbb6)
      have HR2s6 := Lib.hid (HR2s5.out.now hbb6)
      clear h0
      have h0 := HS.out _ hbb6
      refine ⟨_, rfl, h0, ?_⟩
      clear hb6 hbb6 hri
      try simp only [Act.put, List.setIfInBounds_toArray, List.set_cons_zero, List.set_cons_succ]
      refine held_call 7 (some 84) 33 [(.tmp 81), (.tmp 83)] #[25, 3] #[.slice An nn cn, .int .i64 run] (by rfl) (by rfl) (by kernel_rfl) Try.func33 (by rfl) (by rfl) ?_
      refine (rhas_any An nn cn _ R run false _ HRi.out hnn hcr).mono ?_
      rintro e w' ⟨rfl, rfl⟩
      refine ⟨_, rfl, h0, ?_⟩
      try simp only [Act.put, List.setIfInBounds_toArray, List.set_cons_zero, List.set_cons_succ]
      refine held_run 8 (some 85) (.binOp .neq 4 (.tmp 78) (.tmp 84) 4) ?v9_46_55 (by rfl) (by kernel_rfl) (by kernel_rfl) (by kernel_rfl) (fun _ _ _ h => h) (fun o ho w hS => ?y9_46_55) (by assumption) ?r9_46_55
      case y9_46_55 => (try dsimp only at hS); unfold execOp; simp only [ho]; go_simp; try with_reducible rfl
      try simp only [Act.put, List.setIfInBounds_toArray, List.set_cons_zero, List.set_cons_succ]
      refine wpAnyH_done (by kernel_rfl) ?_ _
      clear h0 HS
      go_wp2_with fail
      refine wp_region_held_drew (S := fun _ => True) (by kernel_rfl) (trivial) (fun hHeld => ?_)
      refine held_run 0 (some 86) (.move (.tmp 9)) ?v11_56_57 (by rfl) (by kernel_rfl) (by kernel_rfl) (by kernel_rfl) (fun _ _ _ h => h) (fun o ho w hS => ?y11_56_57) (by assumption) ?r11_56_57
      case y11_56_57 => (try dsimp only at hS); unfold execOp; simp only [ho]; go_simp; try with_reducible rfl
      try simp only [Act.put, List.setIfInBounds_toArray, List.set_cons_zero, List.set_cons_succ]
      refine held_run 1 (some 87) (.binOp .neq 32 (.tmp 86) (.const (.int .i64 0)) 32) ?v11_56_58 (by rfl) (by kernel_rfl) (by kernel_rfl) (by kernel_rfl) (fun _ _ _ h => h) (fun o ho w hS => ?y11_56_58) (by assumption) ?r11_56_58
      case y11_56_58 => (try dsimp only at hS); unfold execOp; simp only [ho]; go_simp; try with_reducible rfl
      try simp only [Act.put, List.setIfInBounds_toArray, List.set_cons_zero, List.set_cons_succ]
      refine held_run 2 (some 88) (.move (.tmp 87)) ?v11_56_59 (by rfl) (by kernel_rfl) (by kernel_rfl) (by kernel_rfl) (fun _ _ _ h => h) (fun o ho w hS => ?y11_56_59) (by assumption) ?r11_56_59
      case y11_56_59 => (try dsimp only at hS); unfold execOp; simp only [ho]; go_simp; try with_reducible rfl
      try simp only [Act.put, List.setIfInBounds_toArray, List.set_cons_zero, List.set_cons_succ]
      refine held_skip 3 (some 89) (by rfl) (by kernel_rfl) (by kernel_rfl) (by kernel_rfl) (fun _ _ _ h => h) (by assumption) ?_
      try simp only [Act.put, List.setIfInBounds_toArray, List.set_cons_zero, List.set_cons_succ]
      refine held_skip 4 (some 90) (by rfl) (by kernel_rfl) (by kernel_rfl) (by kernel_rfl) (fun _ _ _ h => h) (by assumption) ?_
      try simp only [Act.put, List.setIfInBounds_toArray, List.set_cons_zero, List.set_cons_succ]
      refine held_skip 5 (some 91) (by rfl) (by kernel_rfl) (by kernel_rfl) (by kernel_rfl) (fun _ _ _ h => h) (by assumption) ?_
      try simp only [Act.put, List.setIfInBounds_toArray, List.set_cons_zero, List.set_cons_succ]
      refine held_skip 6 (some 92) (by rfl) (by kernel_rfl) (by kernel_rfl) (by kernel_rfl) (fun _ _ _ h => h) (by assumption) ?_
      try simp only [Act.put, List.setIfInBounds_toArray, List.set_cons_zero, List.set_cons_succ]
      refine held_skip 7 (some 93) (by rfl) (by kernel_rfl) (by kernel_rfl) (by kernel_rfl) (fun _ _ _ h => h) (by assumption) ?_
      try simp only [Act.put, List.setIfInBounds_toArray, List.set_cons_zero, List.set_cons_succ]
      refine held_skip 8 (some 94) (by rfl) (by kernel_rfl) (by kernel_rfl) (by kernel_rfl) (fun _ _ _ h => h) (by assumption) ?_
      try simp only [Act.put, List.setIfInBounds_toArray, List.set_cons_zero, List.set_cons_succ]
      refine held_skip 9 (some 95) (by rfl) (by kernel_rfl) (by kernel_rfl) (by kernel_rfl) (fun _ _ _ h => h) (by assumption) ?_
      try simp only [Act.put, List.setIfInBounds_toArray, List.set_cons_zero, List.set_cons_succ]
      refine held_skip 10 (some 96) (by rfl) (by kernel_rfl) (by kernel_rfl) (by kernel_rfl) (fun _ _ _ h => h) (by assumption) ?_
      try simp only [Act.put, List.setIfInBounds_toArray, List.set_cons_zero, List.set_cons_succ]
      refine held_skip 11 (some 97) (by rfl) (by kernel_rfl) (by kernel_rfl) (by kernel_rfl) (fun _ _ _ h => h) (by assumption) ?_
      try simp only [Act.put, List.setIfInBounds_toArray, List.set_cons_zero, List.set_cons_succ]
      refine held_skip 12 (some 98) (by rfl) (by kernel_rfl) (by kernel_rfl) (by kernel_rfl) (fun _ _ _ h => h) (by assumption) ?_
      try simp only [Act.put, List.setIfInBounds_toArray, List.set_cons_zero, List.set_cons_succ]
      refine held_skip 13 (some 99) (by rfl) (by kernel_rfl) (by kernel_rfl) (by kernel_rfl) (fun _ _ _ h => h) (by assumption) ?_
      try simp only [Act.put, List.setIfInBounds_toArray, List.set_cons_zero, List.set_cons_succ]
      refine held_skip 14 (some 100) (by rfl) (by kernel_rfl) (by kernel_rfl) (by kernel_rfl) (fun _ _ _ h => h) (by assumption) ?_
      try simp only [Act.put, List.setIfInBounds_toArray, List.set_cons_zero, List.set_cons_succ]
      refine held_skip 15 (some 101) (by rfl) (by kernel_rfl) (by kernel_rfl) (by kernel_rfl) (fun _ _ _ h => h) (by assumption) ?_
      try simp only [Act.put, List.setIfInBounds_toArray, List.set_cons_zero, List.set_cons_succ]
      refine held_skip 16 (some 102) (by rfl) (by kernel_rfl) (by kernel_rfl) (by kernel_rfl) (fun _ _ _ h => h) (by assumption) ?_
      try simp only [Act.put, List.setIfInBounds_toArray, List.set_cons_zero, List.set_cons_succ]
      refine held_skip 17 (some 103) (by rfl) (by kernel_rfl) (by kernel_rfl) (by kernel_rfl) (fun _ _ _ h => h) (by assumption) ?_
      try simp only [Act.put, List.setIfInBounds_toArray, List.set_cons_zero, List.set_cons_succ]
      refine held_skip 18 (some 104) (by rfl) (by kernel_rfl) (by kernel_rfl) (by kernel_rfl) (fun _ _ _ h => h) (by assumption) ?_
      try simp only [Act.put, List.setIfInBounds_toArray, List.set_cons_zero, List.set_cons_succ]
      refine held_skip 19 (some 105) (by rfl) (by kernel_rfl) (by kernel_rfl) (by kernel_rfl) (fun _ _ _ h => h) (by assumption) ?_
      try simp only [Act.put, List.setIfInBounds_toArray, List.set_cons_zero, List.set_cons_succ]
      refine held_skip 20 (some 106) (by rfl) (by kernel_rfl) (by kernel_rfl) (by kernel_rfl) (fun _ _ _ h => h) (by assumption) ?_
      try simp only [Act.put, List.setIfInBounds_toArray, List.set_cons_zero, List.set_cons_succ]
      refine held_skip 21 (some 107) (by rfl) (by kernel_rfl) (by kernel_rfl) (by kernel_rfl) (fun _ _ _ h => h) (by assumption) ?_
      try simp only [Act.put, List.setIfInBounds_toArray, List.set_cons_zero, List.set_cons_succ]
      refine held_skip 22 (some 108) (by rfl) (by kernel_rfl) (by kernel_rfl) (by kernel_rfl) (fun _ _ _ h => h) (by assumption) ?_
      try simp only [Act.put, List.setIfInBounds_toArray, List.set_cons_zero, List.set_cons_succ]
      refine held_skip 23 (some 109) (by rfl) (by kernel_rfl) (by kernel_rfl) (by kernel_rfl) (fun _ _ _ h => h) (by assumption) ?_
      try simp only [Act.put, List.setIfInBounds_toArray, List.set_cons_zero, List.set_cons_succ]
      refine held_skip 24 (some 110) (by rfl) (by kernel_rfl) (by kernel_rfl) (by kernel_rfl) (fun _ _ _ h => h) (by assumption) ?_
      try simp only [Act.put, List.setIfInBounds_toArray, List.set_cons_zero, List.set_cons_succ]
      refine held_skip 25 (some 111) (by rfl) (by kernel_rfl) (by kernel_rfl) (by kernel_rfl) (fun _ _ _ h => h) (by assumption) ?_
      try simp only [Act.put, List.setIfInBounds_toArray, List.set_cons_zero, List.set_cons_succ]
      refine held_skip 26 (some 112) (by rfl) (by kernel_rfl) (by kernel_rfl) (by kernel_rfl) (fun _ _ _ h => h) (by assumption) ?_
      try simp only [Act.put, List.setIfInBounds_toArray, List.set_cons_zero, List.set_cons_succ]
      refine held_skip 27 (some 113) (by rfl) (by kernel_rfl) (by kernel_rfl) (by kernel_rfl) (fun _ _ _ h => h) (by assumption) ?_
      try simp only [Act.put, List.setIfInBounds_toArray, List.set_cons_zero, List.set_cons_succ]
      refine held_skip 28 (some 114) (by rfl) (by kernel_rfl) (by kernel_rfl) (by kernel_rfl) (fun _ _ _ h => h) (by assumption) ?_
      try simp only [Act.put, List.setIfInBounds_toArray, List.set_cons_zero, List.set_cons_succ]
      refine held_skip 29 (some 115) (by rfl) (by kernel_rfl) (by kernel_rfl) (by kernel_rfl) (fun _ _ _ h => h) (by assumption) ?_
      try simp only [Act.put, List.setIfInBounds_toArray, List.set_cons_zero, List.set_cons_succ]
      refine held_skip 30 (some 116) (by rfl) (by kernel_rfl) (by kernel_rfl) (by kernel_rfl) (fun _ _ _ h => h) (by assumption) ?_
      try simp only [Act.put, List.setIfInBounds_toArray, List.set_cons_zero, List.set_cons_succ]
      refine held_skip 31 (some 117) (by rfl) (by kernel_rfl) (by kernel_rfl) (by kernel_rfl) (fun _ _ _ h => h) (by assumption) ?_
      try simp only [Act.put, List.setIfInBounds_toArray, List.set_cons_zero, List.set_cons_succ]
      refine held_skip 32 (some 118) (by rfl) (by kernel_rfl) (by kernel_rfl) (by kernel_rfl) (fun _ _ _ h => h) (by assumption) ?_
      try simp only [Act.put, List.setIfInBounds_toArray, List.set_cons_zero, List.set_cons_succ]
      refine held_skip 33 (some 119) (by rfl) (by kernel_rfl) (by kernel_rfl) (by kernel_rfl) (fun _ _ _ h => h) (by assumption) ?_
      try simp only [Act.put, List.setIfInBounds_toArray, List.set_cons_zero, List.set_cons_succ]
      refine held_skip 34 (some 120) (by rfl) (by kernel_rfl) (by kernel_rfl) (by kernel_rfl) (fun _ _ _ h => h) (by assumption) ?_
      try simp only [Act.put, List.setIfInBounds_toArray, List.set_cons_zero, List.set_cons_succ]
      refine held_skip 35 (some 121) (by rfl) (by kernel_rfl) (by kernel_rfl) (by kernel_rfl) (fun _ _ _ h => h) (by assumption) ?_
      try simp only [Act.put, List.setIfInBounds_toArray, List.set_cons_zero, List.set_cons_succ]
      refine held_run 36 (some 122) (.pick (.tmp 88) (.const (Value.bool true)) (.tmp 121)) ?v11_56_93 (by rfl) (by kernel_rfl) (by kernel_rfl) (by kernel_rfl) (fun _ _ _ h => h) (fun o ho w hS => ?y11_56_93) (by assumption) ?r11_56_93
      case y11_56_93 => (try dsimp only at hS); unfold execOp; simp only [ho]; go_simp; try with_reducible rfl
      try simp only [Act.put, List.setIfInBounds_toArray, List.set_cons_zero, List.set_cons_succ]
      refine held_run 37 (some 6) (.assign (.tmp 122)) ?v11_56_94 (by rfl) (by kernel_rfl) (by kernel_rfl) (by kernel_rfl) (fun _ _ _ h => h) (fun o ho w hS => ?y11_56_94) (by assumption) ?r11_56_94
      case y11_56_94 => (try dsimp only at hS); unfold execOp; simp only [ho]; go_simp; try with_reducible rfl
      try simp only [Act.put, List.setIfInBounds_toArray, List.set_cons_zero, List.set_cons_succ]
      refine wpAnyH_done (by kernel_rfl) ?_ _
      go_wp2_with fail
      go_ret
      exact ⟨rfl, HW6.out.drew⟩
    · rw [HR'.out] at h0'
      subst h0'
      have ox := hx4.one
      have oy := hy4.one
      have HX4' := Lib.hid hx4
      have HY4' := Lib.hid hy4
      clear hx4 hy4
      have HB4 := Lib.hid (HBc.out.trans (hb4.mono hszc))
      have HW4 := Lib.hid (HWc.out.trans (hb4.mono HWc.out.size))
      have hsz4 : wb.heap.size ≤ w4.heap.size := Nat.le_trans hszc hb4.size
      have HX04 := Lib.hid (HX0c.out.below hb4 (Nat.lt_of_lt_of_le hxx0 hszc))
      have HX14 := Lib.hid (HX1c.out.below hb4 (Nat.lt_of_lt_of_le hxx1 hszc))
      have HX24 := Lib.hid (HX2c.out.below hb4 (Nat.lt_of_lt_of_le hxx2 hszc))
      have HNd4 := Lib.hid (HNdc.out.now hb4)
      have HLf4 := Lib.hid (HLfc.out.now hb4)
      have HM4 := Lib.hid (HMc.out.now hb4)
      have HBv4 := Lib.hid (HBvc.out.now hb4)
      have HR14 := Lib.hid (HR1c.out.now hb4)
      have HR24 := Lib.hid (HR2c.out.now hb4)
      have HR2s4 := Lib.hid (HR2sc.out.now hb4)
      clear hb4
      go_wp2_with
        (first
         | (refine wpList_store_blk rfl 30 (.tmp 8) (.tmp 75) rfl w4.heap.size #[x, y, .int .i64 bg] rfl rfl _ _ (Blk.new w4 30 #[.slice none 0 0, .slice none 0 0, .int .i64 0]) (by kernel_rfl) rfl (by simp [ox, oy, show ∀ (x : Int), (Value.int .i64 x).oneCell' = true from fun _ => rfl]) ?_
            intro w5 hx5 hon5
            have hb5 := hon5.below (below_new w4 (.cells #[.slice none 0 0, .slice none 0 0, .int .i64 0] 30)) (Nat.le_refl _)
            have HE5 := Lib.hid hx5
            have HX5' := Lib.hid (HX4'.out.now hb5)
            have HY5' := Lib.hid (HY4'.out.now hb5)
            have HB5 := Lib.hid (HB4.out.trans (hb5.mono hsz4))
            have HW5 := Lib.hid (HW4.out.trans (hb5.mono HW4.out.size))
            have hsz5 : wb.heap.size ≤ w5.heap.size := Nat.le_trans hsz4 hb5.size
            have HX05 := Lib.hid (HX04.out.below hb5 (Nat.lt_of_lt_of_le hxx0 hsz4))
            have HX15 := Lib.hid (HX14.out.below hb5 (Nat.lt_of_lt_of_le hxx1 hsz4))
            have HX25 := Lib.hid (HX24.out.below hb5 (Nat.lt_of_lt_of_le hxx2 hsz4))
            have HNd5 := Lib.hid (HNd4.out.now hb5)
            have HLf5 := Lib.hid (HLf4.out.now hb5)
            have HM5 := Lib.hid (HM4.out.now hb5)
            have HBv5 := Lib.hid (HBv4.out.now hb5)
            have HR15 := Lib.hid (HR14.out.now hb5)
            have HR25 := Lib.hid (HR24.out.now hb5)
            have HR2s5 := Lib.hid (HR2s4.out.now hb5)
            clear hx5 hon5 hb5))
      have HS : Hid (∀ W, Below w5.heap.size w5 W → (fun W => Below w5.heap.size w5 W ∧ Blk W w.heap.size 27 #[vn, vl, vr, vb] ∧ Blk W (w.heap.size + 1) 30 #[v1, .slice A2 n2 c2, .int .i64 bg] ∧ W.cell? ⟨w.heap.size + 1 + 1, 0, none⟩ = some (.int .i64 run)) W) := fun W hB => ⟨hB, HX05.out.below hB (Nat.lt_of_lt_of_le hxx0 hsz5), HX15.out.below hB (Nat.lt_of_lt_of_le hxx1 hsz5), (HX25.out.below hB (Nat.lt_of_lt_of_le hxx2 hsz5)).cell 0⟩
      have h0 := HS.out _ ((Below.refl w5.heap.size w5).drew)
      have HM5d : Hid (StrV Rn.cells 7 w5.drew w5.drew.heap.size vr rs) := hide HM5.out
      have HR15d : Hid (RowV w5.drew w5.drew.heap.size v1 runs) := hide HR15.out
      have HR25d : Hid (StrV Sw.cells 4 w5.drew w5.drew.heap.size (.slice A2 n2 c2) sw) := hide HR25.out
      have hcr : R.contains run = true := by rw [HCt.out]; simp
      go_wp2_with fail
      refine wp_region_held_drew (S := fun W => Below w5.heap.size w5 W ∧ Blk W w.heap.size 27 #[vn, vl, vr, vb] ∧ Blk W (w.heap.size + 1) 30 #[v1, .slice A2 n2 c2, .int .i64 bg] ∧ W.cell? ⟨w.heap.size + 1 + 1, 0, none⟩ = some (.int .i64 run)) (by kernel_rfl) (h0) (fun hHeld => ?_)
      refine held_run 0 (some 77) (.move (.tmp 9)) ?v9_95_96 (by rfl) (by kernel_rfl) (by kernel_rfl) (by kernel_rfl) (fun _ _ _ h => h) (fun o ho w hS => ?y9_95_96) (by assumption) ?r9_95_96
      case y9_95_96 => (try dsimp only at hS); unfold execOp; simp only [ho]; go_simp; try with_reducible rfl
      try simp only [Act.put, List.setIfInBounds_toArray, List.set_cons_zero, List.set_cons_succ]
      refine held_run 1 (some 78) (.binOp .eql 32 (.tmp 77) (.const (.int .i64 0)) 32) ?v9_95_97 (by rfl) (by kernel_rfl) (by kernel_rfl) (by kernel_rfl) (fun _ _ _ h => h) (fun o ho w hS => ?y9_95_97) (by assumption) ?r9_95_97
      case y9_95_97 => (try dsimp only at hS); unfold execOp; simp only [ho]; go_simp; try with_reducible rfl
      try simp only [Act.put, List.setIfInBounds_toArray, List.set_cons_zero, List.set_cons_succ]
      refine held_load 2 (some 79) 27 (.tmp 3) (by rfl) (by kernel_rfl) (by kernel_rfl) (by kernel_rfl) (w.heap.size) 27 #[vn, vl, vr, vb] (fun _ _ _ h => h) (by rfl) (fun _ h => h.2.1) _ Try.underlying27 rfl (by kernel_rfl) (by assumption) ?_
      try simp only [Act.put, List.setIfInBounds_toArray, List.set_cons_zero, List.set_cons_succ]
      refine held_load 3 (some 80) 30 (.tmp 4) (by rfl) (by kernel_rfl) (by kernel_rfl) (by kernel_rfl) (w.heap.size + 1) 30 #[v1, .slice A2 n2 c2, .int .i64 bg] (fun _ _ _ h => h) (by rfl) (fun _ h => h.2.2.1) _ Try.underlying30 rfl (by kernel_rfl) (by assumption) ?_
      try simp only [Act.put, List.setIfInBounds_toArray, List.set_cons_zero, List.set_cons_succ]
      refine held_run 5 (some 82) (.fieldAddr 39 (.tmp 5) 0) ?v9_95_100 (by rfl) (by kernel_rfl) (by kernel_rfl) (by kernel_rfl) (fun _ _ _ h => h) (fun o ho w hS => ?y9_95_100) (by assumption) ?r9_95_100
      case y9_95_100 => (try dsimp only at hS); unfold execOp; simp only [ho]; go_simp; try with_reducible rfl
      try simp only [Act.put, List.setIfInBounds_toArray, List.set_cons_zero, List.set_cons_succ]
      refine held_run 6 (some 83) (.load 3 (.tmp 82)) ?v9_95_101 (by rfl) (by kernel_rfl) (by kernel_rfl) (by kernel_rfl) (fun _ _ _ h => h) (fun o ho w hS => ?y9_95_101) (by assumption) ?r9_95_101
      case y9_95_101 => (try dsimp only at hS); unfold execOp; simp only [ho]; go_simp; try with_reducible rfl
      try simp only [Act.put, List.setIfInBounds_toArray, List.set_cons_zero, List.set_cons_succ]
      refine held_call 4 (some 81) 19 [(.tmp 79), (.tmp 80)] #[27, 30] #[.agg #[vn, vl, vr, vb], .agg #[v1, .slice A2 n2 c2, .int .i64 bg]] (by rfl) (by rfl) (by kernel_rfl) Try.func19 (by rfl) (by rfl) ?_
      refine (HCn.out _ HM5d.out HR15d.out HR25d.out).mono ?_
      rintro e w6 ⟨An, nn, cn, rfl, hnn, hri, hb6⟩
      have hbb6 : Below w5.heap.size w5 w6 := (Below.refl w5.heap.size w5).drew.trans hb6
      have HRi := Lib.hid hri
      have HB6 := Lib.hid (HB5.out.trans (hbb6.mono hsz5))
      have HW6 := Lib.hid (HW5.out.trans (hbb6.mono HW5.out.size))
      have hsz6 : wb.heap.size ≤ w6.heap.size := Nat.le_trans hsz5 hbb6.size
      have HX06 := Lib.hid (HX05.out.below hbb6 (Nat.lt_of_lt_of_le hxx0 hsz5))
      have HX16 := Lib.hid (HX15.out.below hbb6 (Nat.lt_of_lt_of_le hxx1 hsz5))
      have HX26 := Lib.hid (HX25.out.below hbb6 (Nat.lt_of_lt_of_le hxx2 hsz5))
      have HNd6 := Lib.hid (HNd5.out.now hbb6)
      have HLf6 := Lib.hid (HLf5.out.now hbb6)
      have HM6 := Lib.hid (HM5.out.now hbb6)
      have HBv6 := Lib.hid (HBv5.out.now hbb6)
      have HR16 := Lib.hid (HR15.out.now hbb6)
      have HR26 := Lib.hid (HR25.out.now hbb6)
      have HR2s6 := Lib.hid (HR2s5.out.now hbb6)
      have HE6 := Lib.hid (HE5.out.below hbb6 HE5.out.lt)
      have HX6' := Lib.hid (HX5'.out.now hbb6)
      have HY6' := Lib.hid (HY5'.out.now hbb6)
      clear h0
      have h0 := HS.out _ hbb6
      refine ⟨_, rfl, h0, ?_⟩
      clear hb6 hbb6 hri
      try simp only [Act.put, List.setIfInBounds_toArray, List.set_cons_zero, List.set_cons_succ]
      refine held_call 7 (some 84) 33 [(.tmp 81), (.tmp 83)] #[25, 3] #[.slice An nn cn, .int .i64 run] (by rfl) (by rfl) (by kernel_rfl) Try.func33 (by rfl) (by rfl) ?_
      refine (rhas_any An nn cn _ R run true _ HRi.out hnn hcr).mono ?_
      rintro e w' ⟨rfl, rfl⟩
      refine ⟨_, rfl, h0, ?_⟩
      try simp only [Act.put, List.setIfInBounds_toArray, List.set_cons_zero, List.set_cons_succ]
      refine held_run 8 (some 85) (.binOp .neq 4 (.tmp 78) (.tmp 84) 4) ?v9_95_104 (by rfl) (by kernel_rfl) (by kernel_rfl) (by kernel_rfl) (fun _ _ _ h => h) (fun o ho w hS => ?y9_95_104) (by assumption) ?r9_95_104
      case y9_95_104 => (try dsimp only at hS); unfold execOp; simp only [ho]; go_simp; try with_reducible rfl
      try simp only [Act.put, List.setIfInBounds_toArray, List.set_cons_zero, List.set_cons_succ]
      refine wpAnyH_done (by kernel_rfl) ?_ _
      clear h0 HS
      go_wp2_with fail
      obtain ⟨Ay, ny, cy, rfl, HLy, _, _, _⟩ := HY6'.out.nam
      have hny : ny = n2 + 1 := by rw [← HLy.out, List.length_append, HL2.out]; rfl
      subst hny
      have HS : Hid (∀ W, Below w6.heap.size w6 W → (fun W => Below w6.heap.size w6 W ∧ Blk W w.heap.size 27 #[vn, vl, vr, vb] ∧ Blk W (w.heap.size + 1) 30 #[v1, .slice A2 n2 c2, .int .i64 bg] ∧ Blk W w4.heap.size 30 #[x, .slice Ay (n2 + 1) cy, .int .i64 bg] ∧ W.cell? ⟨w.heap.size + 1 + 1, 0, none⟩ = some (.int .i64 run) ∧ W.cell? ⟨w.heap.size + 1 + 1, 3, none⟩ = some (.int .i64 fnd) ∧ W.cell? ⟨w4.heap.size, 1, none⟩ = some (.slice Ay (n2 + 1) cy) ∧ W.cell? ⟨w.heap.size + 1, 1, none⟩ = some (.slice A2 n2 c2)) W) := fun W hB => ⟨hB, HX06.out.below hB (Nat.lt_of_lt_of_le hxx0 hsz6), HX16.out.below hB (Nat.lt_of_lt_of_le hxx1 hsz6), HE6.out.below hB HE6.out.lt, (HX26.out.below hB (Nat.lt_of_lt_of_le hxx2 hsz6)).cell 0, (HX26.out.below hB (Nat.lt_of_lt_of_le hxx2 hsz6)).cell 3, (HE6.out.below hB HE6.out.lt).cell 1, (HX16.out.below hB (Nat.lt_of_lt_of_le hxx1 hsz6)).cell 1⟩
      have h0 := HS.out _ ((Below.refl w6.heap.size w6).drew)
      have HM6d : Hid (StrV Rn.cells 7 w6.drew w6.drew.heap.size vr rs) := hide HM6.out
      have HBv6d : Hid (RowV w6.drew w6.drew.heap.size vb bs) := hide HBv6.out
      have HX6pd : Hid (RowV w6.drew w6.drew.heap.size x runs) := hide HX6'.out
      have HY6pd : Hid (StrV Sw.cells 4 w6.drew w6.drew.heap.size (.slice Ay (n2 + 1) cy) (sw ++ [⟨run, byy, att, fnd⟩])) := hide HY6'.out
      have hbd : ∀ s ∈ sw, 0 ≤ s.fnd ∧ s.fnd ≤ 1000 := fun s hs => by
        obtain ⟨k, hk, rfl⟩ := List.getElem_of_mem hs
        have h := (chk3_zero.1 (hchk k hk)).2.2.1
        rw [show sw.getD k sw0 = sw[k] by simp [List.getElem?_eq_getElem hk]] at h
        unfold InS at h
        omega
      have hbd2 : ∀ s ∈ sw ++ [(⟨run, byy, att, fnd⟩ : Sw)], 0 ≤ s.fnd ∧ s.fnd ≤ 1000 := fun s hs => by
        rcases List.mem_append.1 hs with hs | hs
        · exact hbd s hs
        · obtain rfl : s = ⟨run, byy, att, fnd⟩ := by simpa using hs
          have h := HIn.out
          unfold InS at h
          simp only at h ⊢
          omega
      have hl2 : (sw ++ [(⟨run, byy, att, fnd⟩ : Sw)]).length ≤ 1000 := by simp; omega
      have hfs : foundN (sw ++ [⟨run, byy, att, fnd⟩]) = foundN sw + fnd := by unfold foundN; simp
      have hfb := found_bd hbd sw.length
      rw [List.take_length] at hfb
      obtain ⟨F, hF⟩ : ∃ F, foundN sw = F := ⟨_, rfl⟩
      have HF := Lib.hid hF
      rw [hF] at hfs hfb
      have HFs := Lib.hid hfs
      have hfn : 0 ≤ fnd ∧ fnd ≤ 1000 := by have h := HIn.out; unfold InS at h; simp only at h; omega
      have hw1 : IntKind.i64.wrap (F + fnd) = F + fnd := IntWalk.i64_in _ (by omega)
      have hn2b : n2 ≤ 1000 := by have := HL2.out; omega
      have hw2 : IntKind.i64.wrap ((n2 : Int) + 1) = (n2 : Int) + 1 := IntWalk.i64_in _ (by omega)
      clear hfs hF hfb
      have e1 : (F + fnd == F + fnd) = true := beq_self_eq_true _
      have e2 : ((n2 : Int) + 1 == (n2 : Int) + 1) = true := beq_self_eq_true _
      have e3 : (((n2 + 1 : Nat) : Int) == (n2 : Int) + 1) = true := by simp
      have hcn : (readyL (befP rs) runs ((sw ++ [(⟨run, byy, att, fnd⟩ : Sw)]).map Sw.run)).contains run = false := not_again (q := ⟨run, byy, att, fnd⟩)
      refine wp_region_held_drew (S := fun W => Below w6.heap.size w6 W ∧ Blk W w.heap.size 27 #[vn, vl, vr, vb] ∧ Blk W (w.heap.size + 1) 30 #[v1, .slice A2 n2 c2, .int .i64 bg] ∧ Blk W w4.heap.size 30 #[x, .slice Ay (n2 + 1) cy, .int .i64 bg] ∧ W.cell? ⟨w.heap.size + 1 + 1, 0, none⟩ = some (.int .i64 run) ∧ W.cell? ⟨w.heap.size + 1 + 1, 3, none⟩ = some (.int .i64 fnd) ∧ W.cell? ⟨w4.heap.size, 1, none⟩ = some (.slice Ay (n2 + 1) cy) ∧ W.cell? ⟨w.heap.size + 1, 1, none⟩ = some (.slice A2 n2 c2)) (by kernel_rfl) (h0) (fun hHeld => ?_)
      refine held_run 0 (some 86) (.move (.tmp 9)) ?v11_105_106 (by rfl) (by kernel_rfl) (by kernel_rfl) (by kernel_rfl) (fun _ _ _ h => h) (fun o ho w hS => ?y11_105_106) (by assumption) ?r11_105_106
      case y11_105_106 => (try dsimp only at hS); unfold execOp; simp only [ho]; go_simp; try with_reducible rfl
      try simp only [Act.put, List.setIfInBounds_toArray, List.set_cons_zero, List.set_cons_succ]
      refine held_run 1 (some 87) (.binOp .neq 32 (.tmp 86) (.const (.int .i64 0)) 32) ?v11_105_107 (by rfl) (by kernel_rfl) (by kernel_rfl) (by kernel_rfl) (fun _ _ _ h => h) (fun o ho w hS => ?y11_105_107) (by assumption) ?r11_105_107
      case y11_105_107 => (try dsimp only at hS); unfold execOp; simp only [ho]; go_simp; try with_reducible rfl
      try simp only [Act.put, List.setIfInBounds_toArray, List.set_cons_zero, List.set_cons_succ]
      refine held_run 2 (some 88) (.move (.tmp 87)) ?v11_105_108 (by rfl) (by kernel_rfl) (by kernel_rfl) (by kernel_rfl) (fun _ _ _ h => h) (fun o ho w hS => ?y11_105_108) (by assumption) ?r11_105_108
      case y11_105_108 => (try dsimp only at hS); unfold execOp; simp only [ho]; go_simp; try with_reducible rfl
      try simp only [Act.put, List.setIfInBounds_toArray, List.set_cons_zero, List.set_cons_succ]
      refine held_load 3 (some 89) 27 (.tmp 3) (by rfl) (by kernel_rfl) (by kernel_rfl) (by kernel_rfl) (w.heap.size) 27 #[vn, vl, vr, vb] (fun _ _ _ h => h) (by rfl) (fun _ h => h.2.1) _ Try.underlying27 rfl (by kernel_rfl) (by assumption) ?_
      try simp only [Act.put, List.setIfInBounds_toArray, List.set_cons_zero, List.set_cons_succ]
      refine held_load 4 (some 90) 30 (.tmp 8) (by rfl) (by kernel_rfl) (by kernel_rfl) (by kernel_rfl) (w4.heap.size) 30 #[x, .slice Ay (n2 + 1) cy, .int .i64 bg] (fun _ _ _ h => h) (by rfl) (fun _ h => h.2.2.2.1) _ Try.underlying30 rfl (by kernel_rfl) (by assumption) ?_
      try simp only [Act.put, List.setIfInBounds_toArray, List.set_cons_zero, List.set_cons_succ]
      refine held_call 5 (some 91) 13 [(.tmp 89), (.tmp 90)] #[27, 30] #[.agg #[vn, vl, vr, vb], .agg #[x, .slice Ay (n2 + 1) cy, .int .i64 bg]] (by rfl) (by rfl) (by kernel_rfl) Try.func13 (by rfl) (by rfl) ?_
      refine (show Calls _ _ _ _ (fun e w' => e = .returned (.int .i64 0) ∧ Below _ _ w') from by have h := right_any vn vl vr vb x _ bg rs bs runs (sw ++ [⟨run, byy, att, fnd⟩]) _ HM6d.out HBv6d.out HX6pd.out HY6pd.out; rw [show rightP rs bs runs bg (sw ++ [⟨run, byy, att, fnd⟩]) = 0 from HR'.out] at h; exact h).mono ?_
      rintro e w7 ⟨rfl, hb7⟩
      have hbb7 : Below w6.heap.size w6 w7 := (Below.refl w6.heap.size w6).drew.trans hb7
      have HB7 := Lib.hid (HB6.out.trans (hbb7.mono hsz6))
      have HW7 := Lib.hid (HW6.out.trans (hbb7.mono HW6.out.size))
      have hsz7 : wb.heap.size ≤ w7.heap.size := Nat.le_trans hsz6 hbb7.size
      have HX07 := Lib.hid (HX06.out.below hbb7 (Nat.lt_of_lt_of_le hxx0 hsz6))
      have HX17 := Lib.hid (HX16.out.below hbb7 (Nat.lt_of_lt_of_le hxx1 hsz6))
      have HX27 := Lib.hid (HX26.out.below hbb7 (Nat.lt_of_lt_of_le hxx2 hsz6))
      have HNd7 := Lib.hid (HNd6.out.now hbb7)
      have HLf7 := Lib.hid (HLf6.out.now hbb7)
      have HM7 := Lib.hid (HM6.out.now hbb7)
      have HBv7 := Lib.hid (HBv6.out.now hbb7)
      have HR17 := Lib.hid (HR16.out.now hbb7)
      have HR27 := Lib.hid (HR26.out.now hbb7)
      have HR2s7 := Lib.hid (HR2s6.out.now hbb7)
      have HEB7 := Lib.hid (hbb7)
      have HXq7 := Lib.hid (HX6'.out.now hbb7)
      have HYq7 := Lib.hid (HY6'.out.now hbb7)
      clear h0
      have h0 := HS.out _ HEB7.out
      refine ⟨_, rfl, h0, ?_⟩
      clear hb7 hbb7
      try simp only [Act.put, List.setIfInBounds_toArray, List.set_cons_zero, List.set_cons_succ]
      refine held_run 6 (some 92) (.binOp .eql 32 (.tmp 91) (.const (.int .i64 0)) 32) ?v11_105_112 (by rfl) (by kernel_rfl) (by kernel_rfl) (by kernel_rfl) (fun _ _ _ h => h) (fun o ho w hS => ?y11_105_112) (by assumption) ?r11_105_112
      case y11_105_112 => (try dsimp only at hS); unfold execOp; simp only [ho]; go_simp; try with_reducible rfl
      try simp only [Act.put, List.setIfInBounds_toArray, List.set_cons_zero, List.set_cons_succ]
      refine held_run 7 (some 93) (.move (.tmp 92)) ?v11_105_113 (by rfl) (by kernel_rfl) (by kernel_rfl) (by kernel_rfl) (fun _ _ _ h => h) (fun o ho w hS => ?y11_105_113) (by assumption) ?r11_105_113
      case y11_105_113 => (try dsimp only at hS); unfold execOp; simp only [ho]; go_simp; try with_reducible rfl
      try simp only [Act.put, List.setIfInBounds_toArray, List.set_cons_zero, List.set_cons_succ]
      refine held_run 8 (some 94) (.fieldAddr 30 (.tmp 8) 1) ?v11_105_114 (by rfl) (by kernel_rfl) (by kernel_rfl) (by kernel_rfl) (fun _ _ _ h => h) (fun o ho w hS => ?y11_105_114) (by assumption) ?r11_105_114
      case y11_105_114 => (try dsimp only at hS); unfold execOp; simp only [ho]; go_simp; try with_reducible rfl
      try simp only [Act.put, List.setIfInBounds_toArray, List.set_cons_zero, List.set_cons_succ]
      refine held_run 9 (some 95) (.load 28 (.tmp 94)) ?v11_105_115 (by rfl) (by kernel_rfl) (by kernel_rfl) (by kernel_rfl) (fun _ _ _ h => h) (fun o ho w hS => ?y11_105_115) (by assumption) ?r11_105_115
      case y11_105_115 => (try dsimp only at hS); unfold execOp; simp only [ho]; go_simp; try with_reducible rfl
      try simp only [Act.put, List.setIfInBounds_toArray, List.set_cons_zero, List.set_cons_succ]
      refine held_run 10 (some 96) (.call { callee := .builtin .len, args := #[(.tmp 95)], argTypes := #[28] }) ?v11_105_116 (by rfl) (by kernel_rfl) (by kernel_rfl) (by kernel_rfl) (fun _ _ _ h => h) (fun o ho w hS => ?y11_105_116) (by assumption) ?r11_105_116
      case y11_105_116 => (try dsimp only at hS); unfold execOp; simp only [ho]; go_simp; try with_reducible rfl
      try simp only [Act.put, List.setIfInBounds_toArray, List.set_cons_zero, List.set_cons_succ]
      refine held_run 11 (some 97) (.fieldAddr 30 (.tmp 4) 1) ?v11_105_117 (by rfl) (by kernel_rfl) (by kernel_rfl) (by kernel_rfl) (fun _ _ _ h => h) (fun o ho w hS => ?y11_105_117) (by assumption) ?r11_105_117
      case y11_105_117 => (try dsimp only at hS); unfold execOp; simp only [ho]; go_simp; try with_reducible rfl
      try simp only [Act.put, List.setIfInBounds_toArray, List.set_cons_zero, List.set_cons_succ]
      refine held_run 12 (some 98) (.load 28 (.tmp 97)) ?v11_105_118 (by rfl) (by kernel_rfl) (by kernel_rfl) (by kernel_rfl) (fun _ _ _ h => h) (fun o ho w hS => ?y11_105_118) (by assumption) ?r11_105_118
      case y11_105_118 => (try dsimp only at hS); unfold execOp; simp only [ho]; go_simp; try with_reducible rfl
      try simp only [Act.put, List.setIfInBounds_toArray, List.set_cons_zero, List.set_cons_succ]
      refine held_run 13 (some 99) (.call { callee := .builtin .len, args := #[(.tmp 98)], argTypes := #[28] }) ?v11_105_119 (by rfl) (by kernel_rfl) (by kernel_rfl) (by kernel_rfl) (fun _ _ _ h => h) (fun o ho w hS => ?y11_105_119) (by assumption) ?r11_105_119
      case y11_105_119 => (try dsimp only at hS); unfold execOp; simp only [ho]; go_simp; try with_reducible rfl
      try simp only [Act.put, List.setIfInBounds_toArray, List.set_cons_zero, List.set_cons_succ]
      refine held_run 14 (some 100) (.binOp .add 3 (.tmp 99) (.const (.int .i64 1)) 3) ?v11_105_120 (by rfl) (by kernel_rfl) (by kernel_rfl) (by kernel_rfl) (fun _ _ _ h => h) (fun o ho w hS => ?y11_105_120) (by assumption) ?r11_105_120
      case y11_105_120 => (try dsimp only at hS); unfold execOp; simp only [ho]; go_simp; try with_reducible rfl
      try simp only [Act.put, List.setIfInBounds_toArray, List.set_cons_zero, List.set_cons_succ]
      refine held_run 15 (some 101) (.binOp .eql 3 (.tmp 96) (.tmp 100) 3) ?v11_105_121 (by rfl) (by kernel_rfl) (by kernel_rfl) (by kernel_rfl) (fun _ _ _ h => h) (fun o ho w hS => ?y11_105_121) (by assumption) ?r11_105_121
      case y11_105_121 => (try dsimp only at hS); unfold execOp; simp only [ho]; go_simp; try with_reducible rfl
      try simp only [Act.put, List.setIfInBounds_toArray, List.set_cons_zero, List.set_cons_succ]
      refine held_run 16 (some 102) (.pick (.tmp 93) (.tmp 101) (.const (Value.bool false))) ?v11_105_122 (by rfl) (by kernel_rfl) (by kernel_rfl) (by kernel_rfl) (fun _ _ _ h => h) (fun o ho w hS => ?y11_105_122) (by assumption) ?r11_105_122
      case y11_105_122 => (try dsimp only at hS); unfold execOp; simp only [ho]; go_simp; try with_reducible rfl
      try simp only [Act.put, List.setIfInBounds_toArray, List.set_cons_zero, List.set_cons_succ]
      refine held_run 17 (some 103) (.move (.tmp 102)) ?v11_105_123 (by rfl) (by kernel_rfl) (by kernel_rfl) (by kernel_rfl) (fun _ _ _ h => h) (fun o ho w hS => ?y11_105_123) (by assumption) ?r11_105_123
      case y11_105_123 => (try dsimp only at hS); unfold execOp; simp only [ho]; go_simp; try with_reducible rfl
      try simp only [Act.put, List.setIfInBounds_toArray, List.set_cons_zero, List.set_cons_succ]
      refine held_load 18 (some 104) 27 (.tmp 3) (by rfl) (by kernel_rfl) (by kernel_rfl) (by kernel_rfl) (w.heap.size) 27 #[vn, vl, vr, vb] (fun _ _ _ h => h) (by rfl) (fun _ h => h.2.1) _ Try.underlying27 rfl (by kernel_rfl) (by assumption) ?_
      try simp only [Act.put, List.setIfInBounds_toArray, List.set_cons_zero, List.set_cons_succ]
      refine held_load 19 (some 105) 30 (.tmp 8) (by rfl) (by kernel_rfl) (by kernel_rfl) (by kernel_rfl) (w4.heap.size) 30 #[x, .slice Ay (n2 + 1) cy, .int .i64 bg] (fun _ _ _ h => h) (by rfl) (fun _ h => h.2.2.2.1) _ Try.underlying30 rfl (by kernel_rfl) (by assumption) ?_
      try simp only [Act.put, List.setIfInBounds_toArray, List.set_cons_zero, List.set_cons_succ]
      refine held_run 21 (some 107) (.fieldAddr 39 (.tmp 5) 0) ?v11_105_126 (by rfl) (by kernel_rfl) (by kernel_rfl) (by kernel_rfl) (fun _ _ _ h => h) (fun o ho w hS => ?y11_105_126) (by assumption) ?r11_105_126
      case y11_105_126 => (try dsimp only at hS); unfold execOp; simp only [ho]; go_simp; try with_reducible rfl
      try simp only [Act.put, List.setIfInBounds_toArray, List.set_cons_zero, List.set_cons_succ]
      refine held_run 22 (some 108) (.load 3 (.tmp 107)) ?v11_105_127 (by rfl) (by kernel_rfl) (by kernel_rfl) (by kernel_rfl) (fun _ _ _ h => h) (fun o ho w hS => ?y11_105_127) (by assumption) ?r11_105_127
      case y11_105_127 => (try dsimp only at hS); unfold execOp; simp only [ho]; go_simp; try with_reducible rfl
      try simp only [Act.put, List.setIfInBounds_toArray, List.set_cons_zero, List.set_cons_succ]
      refine held_call 20 (some 106) 19 [(.tmp 104), (.tmp 105)] #[27, 30] #[.agg #[vn, vl, vr, vb], .agg #[x, .slice Ay (n2 + 1) cy, .int .i64 bg]] (by rfl) (by rfl) (by kernel_rfl) Try.func19 (by rfl) (by rfl) ?_
      refine (next_any vn vl vr vb x _ bg rs runs (sw ++ [⟨run, byy, att, fnd⟩]) _ HM7.out HXq7.out HYq7.out hlim hl2).mono ?_
      rintro e w8 ⟨v8, rfl, ho8, hb8⟩
      obtain ⟨A8, n8, c8, rfl, _, g81, g82, hr8⟩ := ho8.rowV.nam
      have HR8 := Lib.hid hr8
      have hn8 : n8 ≤ maxLen := Nat.le_trans g81 g82
      have HB8 := Lib.hid (HB7.out.trans (hb8.mono hsz7))
      have HW8 := Lib.hid (HW7.out.trans (hb8.mono HW7.out.size))
      have hsz8 : wb.heap.size ≤ w8.heap.size := Nat.le_trans hsz7 hb8.size
      have HX08 := Lib.hid (HX07.out.below hb8 (Nat.lt_of_lt_of_le hxx0 hsz7))
      have HX18 := Lib.hid (HX17.out.below hb8 (Nat.lt_of_lt_of_le hxx1 hsz7))
      have HX28 := Lib.hid (HX27.out.below hb8 (Nat.lt_of_lt_of_le hxx2 hsz7))
      have HNd8 := Lib.hid (HNd7.out.now hb8)
      have HLf8 := Lib.hid (HLf7.out.now hb8)
      have HM8 := Lib.hid (HM7.out.now hb8)
      have HBv8 := Lib.hid (HBv7.out.now hb8)
      have HR18 := Lib.hid (HR17.out.now hb8)
      have HR28 := Lib.hid (HR27.out.now hb8)
      have HR2s8 := Lib.hid (HR2s7.out.now hb8)
      have HEB8 := Lib.hid (HEB7.out.trans (hb8.mono HEB7.out.size))
      have HXq8 := Lib.hid (HXq7.out.now hb8)
      have HYq8 := Lib.hid (HYq7.out.now hb8)
      clear h0
      have h0 := HS.out _ HEB8.out
      refine ⟨_, rfl, h0, ?_⟩
      clear hb8 ho8 hr8
      try simp only [Act.put, List.setIfInBounds_toArray, List.set_cons_zero, List.set_cons_succ]
      refine held_call 23 (some 109) 33 [(.tmp 106), (.tmp 108)] #[25, 3] #[.slice A8 n8 c8, .int .i64 run] (by rfl) (by rfl) (by kernel_rfl) Try.func33 (by rfl) (by rfl) ?_
      refine (rhas_any A8 n8 c8 _ _ run false _ HR8.out hn8 hcn).mono ?_
      rintro e w' ⟨rfl, rfl⟩
      refine ⟨_, rfl, h0, ?_⟩
      try simp only [Act.put, List.setIfInBounds_toArray, List.set_cons_zero, List.set_cons_succ]
      refine held_run 24 (some 110) (.unOp .not 4 (.tmp 109)) ?v11_105_130 (by rfl) (by kernel_rfl) (by kernel_rfl) (by kernel_rfl) (fun _ _ _ h => h) (fun o ho w hS => ?y11_105_130) (by assumption) ?r11_105_130
      case y11_105_130 => (try dsimp only at hS); unfold execOp; simp only [ho]; go_simp; try with_reducible rfl
      try simp only [Act.put, List.setIfInBounds_toArray, List.set_cons_zero, List.set_cons_succ]
      refine held_run 25 (some 111) (.pick (.tmp 103) (.tmp 110) (.const (Value.bool false))) ?v11_105_131 (by rfl) (by kernel_rfl) (by kernel_rfl) (by kernel_rfl) (fun _ _ _ h => h) (fun o ho w hS => ?y11_105_131) (by assumption) ?r11_105_131
      case y11_105_131 => (try dsimp only at hS); unfold execOp; simp only [ho]; go_simp; try with_reducible rfl
      try simp only [Act.put, List.setIfInBounds_toArray, List.set_cons_zero, List.set_cons_succ]
      refine held_run 26 (some 112) (.move (.tmp 111)) ?v11_105_132 (by rfl) (by kernel_rfl) (by kernel_rfl) (by kernel_rfl) (fun _ _ _ h => h) (fun o ho w hS => ?y11_105_132) (by assumption) ?r11_105_132
      case y11_105_132 => (try dsimp only at hS); unfold execOp; simp only [ho]; go_simp; try with_reducible rfl
      try simp only [Act.put, List.setIfInBounds_toArray, List.set_cons_zero, List.set_cons_succ]
      refine held_load 27 (some 113) 30 (.tmp 8) (by rfl) (by kernel_rfl) (by kernel_rfl) (by kernel_rfl) (w4.heap.size) 30 #[x, .slice Ay (n2 + 1) cy, .int .i64 bg] (fun _ _ _ h => h) (by rfl) (fun _ h => h.2.2.2.1) _ Try.underlying30 rfl (by kernel_rfl) (by assumption) ?_
      try simp only [Act.put, List.setIfInBounds_toArray, List.set_cons_zero, List.set_cons_succ]
      refine held_load 29 (some 115) 30 (.tmp 4) (by rfl) (by kernel_rfl) (by kernel_rfl) (by kernel_rfl) (w.heap.size + 1) 30 #[v1, .slice A2 n2 c2, .int .i64 bg] (fun _ _ _ h => h) (by rfl) (fun _ h => h.2.2.1) _ Try.underlying30 rfl (by kernel_rfl) (by assumption) ?_
      try simp only [Act.put, List.setIfInBounds_toArray, List.set_cons_zero, List.set_cons_succ]
      refine held_run 31 (some 117) (.fieldAddr 39 (.tmp 5) 3) ?v11_105_135 (by rfl) (by kernel_rfl) (by kernel_rfl) (by kernel_rfl) (fun _ _ _ h => h) (fun o ho w hS => ?y11_105_135) (by assumption) ?r11_105_135
      case y11_105_135 => (try dsimp only at hS); unfold execOp; simp only [ho]; go_simp; try with_reducible rfl
      try simp only [Act.put, List.setIfInBounds_toArray, List.set_cons_zero, List.set_cons_succ]
      refine held_run 32 (some 118) (.load 3 (.tmp 117)) ?v11_105_136 (by rfl) (by kernel_rfl) (by kernel_rfl) (by kernel_rfl) (fun _ _ _ h => h) (fun o ho w hS => ?y11_105_136) (by assumption) ?r11_105_136
      case y11_105_136 => (try dsimp only at hS); unfold execOp; simp only [ho]; go_simp; try with_reducible rfl
      try simp only [Act.put, List.setIfInBounds_toArray, List.set_cons_zero, List.set_cons_succ]
      refine held_call 28 (some 114) 26 [(.tmp 113)] #[30] #[.agg #[x, .slice Ay (n2 + 1) cy, .int .i64 bg]] (by rfl) (by rfl) (by kernel_rfl) Try.func26 (by rfl) (by rfl) ?_
      refine (show Calls _ _ _ _ (fun e w' => e = .returned (.int .i64 (F + fnd)) ∧ Below _ _ w') from by have h := found_any x _ bg _ _ HYq8.out hl2 hbd2; rw [HFs.out] at h; exact h).mono ?_
      rintro e w9 ⟨rfl, hb9⟩
      have HB9 := Lib.hid (HB8.out.trans (hb9.mono hsz8))
      have HW9 := Lib.hid (HW8.out.trans (hb9.mono HW8.out.size))
      have hsz9 : wb.heap.size ≤ w9.heap.size := Nat.le_trans hsz8 hb9.size
      have HX09 := Lib.hid (HX08.out.below hb9 (Nat.lt_of_lt_of_le hxx0 hsz8))
      have HX19 := Lib.hid (HX18.out.below hb9 (Nat.lt_of_lt_of_le hxx1 hsz8))
      have HX29 := Lib.hid (HX28.out.below hb9 (Nat.lt_of_lt_of_le hxx2 hsz8))
      have HNd9 := Lib.hid (HNd8.out.now hb9)
      have HLf9 := Lib.hid (HLf8.out.now hb9)
      have HM9 := Lib.hid (HM8.out.now hb9)
      have HBv9 := Lib.hid (HBv8.out.now hb9)
      have HR19 := Lib.hid (HR18.out.now hb9)
      have HR29 := Lib.hid (HR28.out.now hb9)
      have HR2s9 := Lib.hid (HR2s8.out.now hb9)
      have HEB9 := Lib.hid (HEB8.out.trans (hb9.mono HEB8.out.size))
      have HXq9 := Lib.hid (HXq8.out.now hb9)
      have HYq9 := Lib.hid (HYq8.out.now hb9)
      clear h0
      have h0 := HS.out _ HEB9.out
      refine ⟨_, rfl, h0, ?_⟩
      clear hb9
      try simp only [Act.put, List.setIfInBounds_toArray, List.set_cons_zero, List.set_cons_succ]
      refine held_call 30 (some 116) 26 [(.tmp 115)] #[30] #[.agg #[v1, .slice A2 n2 c2, .int .i64 bg]] (by rfl) (by rfl) (by kernel_rfl) Try.func26 (by rfl) (by rfl) ?_
      refine (show Calls _ _ _ _ (fun e w' => e = .returned (.int .i64 F) ∧ Below _ _ w') from by have h := found_any v1 _ bg _ _ HR29.out hlim2 hbd; rw [HF.out] at h; exact h).mono ?_
      rintro e w10 ⟨rfl, hb10⟩
      have HB10 := Lib.hid (HB9.out.trans (hb10.mono hsz9))
      have HW10 := Lib.hid (HW9.out.trans (hb10.mono HW9.out.size))
      have hsz10 : wb.heap.size ≤ w10.heap.size := Nat.le_trans hsz9 hb10.size
      have HX010 := Lib.hid (HX09.out.below hb10 (Nat.lt_of_lt_of_le hxx0 hsz9))
      have HX110 := Lib.hid (HX19.out.below hb10 (Nat.lt_of_lt_of_le hxx1 hsz9))
      have HX210 := Lib.hid (HX29.out.below hb10 (Nat.lt_of_lt_of_le hxx2 hsz9))
      have HNd10 := Lib.hid (HNd9.out.now hb10)
      have HLf10 := Lib.hid (HLf9.out.now hb10)
      have HM10 := Lib.hid (HM9.out.now hb10)
      have HBv10 := Lib.hid (HBv9.out.now hb10)
      have HR110 := Lib.hid (HR19.out.now hb10)
      have HR210 := Lib.hid (HR29.out.now hb10)
      have HR2s10 := Lib.hid (HR2s9.out.now hb10)
      have HEB10 := Lib.hid (HEB9.out.trans (hb10.mono HEB9.out.size))
      have HXq10 := Lib.hid (HXq9.out.now hb10)
      have HYq10 := Lib.hid (HYq9.out.now hb10)
      clear h0
      have h0 := HS.out _ HEB10.out
      refine ⟨_, rfl, h0, ?_⟩
      clear hb10
      try simp only [Act.put, List.setIfInBounds_toArray, List.set_cons_zero, List.set_cons_succ]
      refine held_run 33 (some 119) (.binOp .add 3 (.tmp 116) (.tmp 118) 3) ?v11_105_139 (by rfl) (by kernel_rfl) (by kernel_rfl) (by kernel_rfl) (fun _ _ _ h => h) (fun o ho w hS => ?y11_105_139) (by assumption) ?r11_105_139
      case y11_105_139 => (try dsimp only at hS); unfold execOp; simp only [ho]; go_simp; try with_reducible rfl
      try simp only [Act.put, List.setIfInBounds_toArray, List.set_cons_zero, List.set_cons_succ]
      refine held_run 34 (some 120) (.binOp .eql 3 (.tmp 114) (.tmp 119) 3) ?v11_105_140 (by rfl) (by kernel_rfl) (by kernel_rfl) (by kernel_rfl) (fun _ _ _ h => h) (fun o ho w hS => ?y11_105_140) (by assumption) ?r11_105_140
      case y11_105_140 => (try dsimp only at hS); unfold execOp; simp only [ho]; go_simp; try with_reducible rfl
      try simp only [Act.put, List.setIfInBounds_toArray, List.set_cons_zero, List.set_cons_succ]
      refine held_run 35 (some 121) (.pick (.tmp 112) (.tmp 120) (.const (Value.bool false))) ?v11_105_141 (by rfl) (by kernel_rfl) (by kernel_rfl) (by kernel_rfl) (fun _ _ _ h => h) (fun o ho w hS => ?y11_105_141) (by assumption) ?r11_105_141
      case y11_105_141 => (try dsimp only at hS); unfold execOp; simp only [ho]; go_simp; try with_reducible rfl
      try simp only [Act.put, List.setIfInBounds_toArray, List.set_cons_zero, List.set_cons_succ]
      refine held_run 36 (some 122) (.pick (.tmp 88) (.const (Value.bool true)) (.tmp 121)) ?v11_105_142 (by rfl) (by kernel_rfl) (by kernel_rfl) (by kernel_rfl) (fun _ _ _ h => h) (fun o ho w hS => ?y11_105_142) (by assumption) ?r11_105_142
      case y11_105_142 => (try dsimp only at hS); unfold execOp; simp only [ho]; go_simp; try with_reducible rfl
      try simp only [Act.put, List.setIfInBounds_toArray, List.set_cons_zero, List.set_cons_succ]
      refine held_run 37 (some 6) (.assign (.tmp 122)) ?v11_105_143 (by rfl) (by kernel_rfl) (by kernel_rfl) (by kernel_rfl) (fun _ _ _ h => h) (fun o ho w hS => ?y11_105_143) (by assumption) ?r11_105_143
      case y11_105_143 => (try dsimp only at hS); unfold execOp; simp only [ho]; go_simp; try with_reducible rfl
      try simp only [Act.put, List.setIfInBounds_toArray, List.set_cons_zero, List.set_cons_succ]
      refine wpAnyH_done (by kernel_rfl) ?_ _
      clear hw1 hw2 h0
      go_wp2_with fail
      go_ret
      exact ⟨rfl, HW10.out⟩


theorem own_sweepNext : ownKnob Try.prog.godebug = none := by kernel_rfl
theorem laidOut_sweepNext : laidOutB Try.prog = true := by kernel_rfl
set_option maxRecDepth 100000 in
theorem sweepNext_lifted (os : Os) (started : os.Started) (H : Type) (enc : TypeId × Value → H) :
    ReturnsInHanded {} Try.checked os 10 .any (Rows.sweepNextSpec.pre6 enc Try.prog Try.f10 Rows.sweepNextRow.domain false) (Rows.sweepNextSpec.post enc Try.prog Try.f10 false true false false) := by
  refine returnsInHanded_of_change (C := Try.checked) own_sweepNext started (by kernel_rfl) Try.func10
    (ChangeSpec.witness6 (enc := enc) (C := Try.checked) false ⟨#[], #[.agg #[.slice none 0 0, .slice none 0 0, .slice none 0 0, .slice none 0 0], .agg #[.slice none 0 0, .slice none 0 0, .int .i64 0], .agg #[.int .i64 0, .int .i64 0, .int .i64 0, .int .i64 0]], []⟩ 8 (by kernel_rfl) (by kernel_rfl) (by kernel_rfl) (by kernel_rfl)) ?_
  intro W base args ds gs before hval0 hW hcnd _
  have hval : ∀ (j : Nat) t v, Try.f10.params[j]? = some t → args[j]? = some v → Value.okWide Try.prog W .any base t v := hval0
  have hW' := hW
  obtain ⟨p, q, hA0, hV, rfl, hfz, hnd⟩ := hW
  have hA : DataW.TrodAll enc Try.prog W 0 (fun _ => true) true Try.f10.params.toList args.toList ds p := hA0
  rw [Try.params10] at hA hval
  obtain ⟨v0, vs0, d0, ds0, p0, q0, hargs, rfl, rfl, h0, r0⟩ := trodAll_cons hA
  obtain ⟨v1, vs1, d1, ds1, p1, q1, rfl, rfl, rfl, h1, r1⟩ := trodAll_cons r0
  obtain ⟨v2, vs2, d2, ds2, p2, q2, rfl, rfl, rfl, h2, r2⟩ := trodAll_cons r1
  obtain ⟨rfl, rfl, rfl⟩ := trodAll_nil r2
  obtain rfl : args = #[v0, v1, v2] := by cases args; simp_all
  obtain ⟨rfl, rfl⟩ := trodVars_none hV
  obtain ⟨vn, vl, vr, vb, nd, lf, rs, bs, rfl, hnd, hlf, hrs, hbs⟩ := open_map (hval 0 27 v0 rfl rfl) h0
  obtain ⟨s1, s2, bg, runs, sw, rfl, hru, hsw⟩ := open_sweep (hval 1 30 v1 rfl rfl) h1
  obtain ⟨q, rfl⟩ := open_swept (hval 2 39 v2 rfl rfl) h2
  refine (sweepNext_any W vn vl vr vb nd lf rs bs hnd hlf hrs hbs s1 s2 bg runs sw hru hsw q).mono fun e W' ⟨he, hb⟩ => ?_
  subst he
  exact ⟨_, rfl, law_post laidOut_sweepNext (by kernel_rfl) rfl rfl Try.underlying4 hW' rfl hb⟩

theorem sweepNext_holds : Rows.SweepNextSaid :=
  OpenClaim.holds_of_wide 10 Try.f10 rfl rfl rfl rfl rfl rfl rfl ⟨rfl, rfl, rfl, rfl, rfl⟩ rfl rfl rfl rfl rfl (by kernel_rfl) Try.func10 (by kernel_rfl)
    (of_decide_eq_true (by kernel_rfl)) (by unfold Func.isWrapper; rw [if_neg (by decide +kernel)]; exact ⟨rfl, rfl⟩)
    (fun os started H enc _ => sweepNext_lifted os started H enc)
#print axioms sweepNext_holds
end Go.Proofs.Yticoeibccdplaaa
