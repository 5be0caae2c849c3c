/-
  push of chapter 56, and the reference's, walked.
-/
import Derived.Test.YticoeibccdplaaaSwpJ
import Derived.Test.YticoeibccdplaaaStrO
namespace Go.Proofs.Yticoeibccdplaaa
open Go.RowKit

theorem push_out {bef : Int → Int → Bool} {out : Int → Bool} {runs people : List Int} {i : Nat} (h : out (runs.getD i 0) = true) : pushN bef out runs people i = (people.set i 0, people.getD i 0) := by unfold pushN; rw [if_pos h]
theorem push_low {bef : Int → Int → Bool} {out : Int → Bool} {runs people : List Int} {i j : Nat} (h : out (runs.getD i 0) = false) (hj : lowI bef runs (runs.getD i 0) = (j : Int)) : pushN bef out runs people i = ((people.set i 0).set j ((people.set i 0).getD j 0 + people.getD i 0), 0) := by
  unfold pushN
  rw [if_neg (by rw [h]; simp), if_pos (by omega), hj]
  rfl
theorem push_no {bef : Int → Int → Bool} {out : Int → Bool} {runs people : List Int} {i : Nat} (h : out (runs.getD i 0) = false) (hj : lowI bef runs (runs.getD i 0) < 0) : pushN bef out runs people i = (people, 0) := by
  unfold pushN
  rw [if_neg (by rw [h]; simp), if_neg (by omega)]
theorem idxF_lt (f : Int → Bool) : ∀ (l : List Int) (k : Nat), idxF f l k < (k + l.length : Int) ∧ -1 ≤ idxF f l k
  | [], k => by simp [idxF]; omega
  | x :: l, k => by
    rw [idxF]
    have h := idxF_lt f l (k + 1)
    by_cases hx : f x = true
    · rw [if_pos hx]; simp only [List.length_cons]; omega
    · rw [if_neg hx]; simp only [List.length_cons]; omega
theorem getD_set_bd {l : List Int} {M : Int} (h : ∀ z ∈ l, 0 ≤ z ∧ z ≤ M) (i j : Nat) (hM : 0 ≤ M) : 0 ≤ (l.set i 0).getD j 0 ∧ (l.set i 0).getD j 0 ≤ M := by
  rcases Nat.lt_or_ge j l.length with hj | hj
  · rw [show (l.set i 0).getD j 0 = (l.set i 0)[j]'(by simpa using hj) by simp [List.getElem?_eq_getElem (show j < (l.set i 0).length by simpa using hj)]]
    have := List.mem_or_eq_of_mem_set (List.getElem_mem (show j < (l.set i 0).length by simpa using hj))
    rcases this with h1 | h1
    · exact h _ h1
    · rw [h1]; exact ⟨Int.le_refl _, hM⟩
  · rw [show (l.set i 0).getD j 0 = 0 by simp [hj]]
    exact ⟨Int.le_refl _, hM⟩
theorem getD_bd {l : List Int} {M : Int} (h : ∀ z ∈ l, 0 ≤ z ∧ z ≤ M) (j : Nat) (hM : 0 ≤ M) : 0 ≤ l.getD j 0 ∧ l.getD j 0 ≤ M := by
  rcases Nat.lt_or_ge j l.length with hj | hj
  · rw [show l.getD j 0 = l[j] by simp [List.getElem?_eq_getElem hj]]
    exact h _ (List.getElem_mem hj)
  · rw [show l.getD j 0 = 0 by simp [hj]]
    exact ⟨Int.le_refl _, hM⟩
set_option maxRecDepth 100000 in
set_option maxHeartbeats 4000000 in
theorem push_any (vn vl vr vb v1 v2 : Value) (bg : Int) (rs : List Rn) (bs runs people : List Int) (g n cap base i : Nat) (w : World) (hm : StrV Rn.cells 7 w base vr rs) (hb : RowV w base vb bs) (hr1 : RowV w base v1 runs) (ho : OwnG 3 w base g n cap people) (hrl : runs.length = n) (hi : i < n) (hbase : base ≤ w.heap.size) (hlim : n ≤ 1000) (hbd : ∀ z ∈ people, 0 ≤ z ∧ z ≤ 100000000000) :
    Calls Try.prog 55 #[.agg #[vn, vl, vr, vb], .agg #[v1, v2, .int .i64 bg], .slice (some ⟨g, 0, none⟩) n cap, .int .i64 (i : Int)] w fun e w' => e = .returned (.int .i64 (pushN (befP rs) (outP rs bs) runs people i).2) ∧ OwnG 3 w' base g n cap (pushN (befP rs) (outP rs bs) runs people i).1 ∧ w.grownBy w' (some g) := by
  have hmw := hm.more hbase
  have hbw := hb.more hbase
  have hrw := hr1.more hbase
  obtain ⟨A1, n1, c1, rfl, HL, h11, h12, hr1'⟩ := hrw.nam
  obtain ⟨Ab, nb, cb, rfl, HLb, hb1, hb2, hb'⟩ := hbw.nam
  have HRv := Lib.hid hrw
  have HR := Lib.hid hr1'
  have HB' := Lib.hid hb'
  have HM := Lib.hid hmw
  have HO := Lib.hid ho
  have hnb : nb ≤ maxLen := Nat.le_trans hb1 hb2
  have hgl := (World.ownsRow.lt ho g rfl).2
  have hgb := (World.ownsRow.lt ho g rfl).1
  have hn1 : n1 = n := by rw [← HL.out]; exact hrl
  subst hn1
  have HC1 : Hid (∀ (x : Int) (W : World), StrV Rn.cells 7 W W.heap.size vr rs → Calls Try.prog 40 #[.agg #[vn, vl, vr, .slice Ab nb cb], .int .i64 x] W fun e w' => ∃ (i1 i2 i3 i4 i5 i6 i7 : Int) (b : Bool), e = .returned (.tuple #[.agg #[.int .i64 i1, .int .i64 i2, .int .i64 i3, .int .i64 i4, .int .i64 i5, .int .i64 i6, .int .i64 i7], .bool b]) ∧ outP rs bs x = bs.contains i4 ∧ Below W.heap.size W w') := fun x W q1 => by
    refine (run_any vn vl vr (.slice Ab nb cb) rs x W q1).mono ?_
    rintro e w' ⟨rfl, h⟩
    exact ⟨_, _, _, _, _, _, _, _, rfl, rfl, h⟩
  have HC2 : Hid (∀ (x : Int) (W : World), StrV Rn.cells 7 W W.heap.size vr rs → RowV W W.heap.size (.slice A1 n1 c1) runs → Calls Try.prog 42 #[.agg #[vn, vl, vr, .slice Ab nb cb], .agg #[.slice A1 n1 c1, v2, .int .i64 bg], .int .i64 x] W fun e w' => e = .returned (.int .i64 (lowI (befP rs) runs x)) ∧ Below W.heap.size W w') := fun x W q1 q2 => below_any vn vl vr _ _ v2 bg rs runs x W q1 q2
  have HLw : Hid (∀ x, lowI (befP rs) runs x < (n1 : Int) ∧ -1 ≤ lowI (befP rs) runs x) := fun x => by have h := idxF_lt (befP rs x) runs 0; rw [HL.out] at h; unfold lowI; omega
  have HPo : Hid (outP rs bs (runs.getD i 0) = true → pushN (befP rs) (outP rs bs) runs people i = (people.set i 0, people.getD i 0)) := fun h => push_out h
  have HPl : Hid (∀ j : Nat, outP rs bs (runs.getD i 0) = false → lowI (befP rs) runs (runs.getD i 0) = (j : Int) → pushN (befP rs) (outP rs bs) runs people i = ((people.set i 0).set j ((people.set i 0).getD j 0 + people.getD i 0), 0)) := fun j h hj => push_low h hj
  have HPn : Hid (outP rs bs (runs.getD i 0) = false → lowI (befP rs) runs (runs.getD i 0) < 0 → pushN (befP rs) (outP rs bs) runs people i = (people, 0)) := fun h hj => push_no h hj
  have HS1 : Hid (∀ j, 0 ≤ (people.set i 0).getD j 0 ∧ (people.set i 0).getD j 0 ≤ 100000000000) := fun j => getD_set_bd hbd i j (by omega)
  have HS0 := getD_bd hbd i (show (0 : Int) ≤ 100000000000 by omega)
  have hp0 : w.cell? ⟨g, i, none⟩ = some (.int .i64 (people.getD i 0)) := OwnG.cell ho hi
  obtain ⟨ad, rfl, hab, hc⟩ := HR.out.int hi
  clear hm hb hr1 hmw hbw hrw hr1' hb' ho hb1 hb2 hbd hrl
  generalize pushN (befP rs) (outP rs bs) runs people i = R at *
  generalize lowI (befP rs) runs = low at *
  generalize outP rs bs = out at *
  generalize runs.getD i 0 = x at *
  generalize people.getD i 0 = p at *
  go_enter Try.func55, Try.ntmps55
  go_wp2_with fail
  have HBwz0 := (Blk.new w 27 #[vn, vl, vr, .slice Ab nb cb])
  have HLwz0 := (below_new w (.cells #[vn, vl, vr, .slice Ab nb cb] 27))
  have hswz0 : (w.alloc (.cells #[vn, vl, vr, .slice Ab nb cb] 27)).heap.size = w.heap.size + 1 := by simp
  generalize w.alloc (.cells #[vn, vl, vr, .slice Ab nb cb] 27) = wz0 at HBwz0 HLwz0 hswz0 ⊢
  replace HBwz0 := Lib.hid HBwz0
  replace HLwz0 := Lib.hid HLwz0
  have hlwz0 : w.heap.size < wz0.heap.size := by omega
  replace hswz0 := Lib.hid hswz0
  have HBwb := (Blk.new wz0 30 #[.slice (some ad) n1 c1, v2, .int .i64 bg])
  have HLwb := (below_new wz0 (.cells #[.slice (some ad) n1 c1, v2, .int .i64 bg] 30))
  have hswb : (wz0.alloc (.cells #[.slice (some ad) n1 c1, v2, .int .i64 bg] 30)).heap.size = wz0.heap.size + 1 := by simp
  generalize wz0.alloc (.cells #[.slice (some ad) n1 c1, v2, .int .i64 bg] 30) = wb at HBwb HLwb hswb ⊢
  replace HBwb := Lib.hid HBwb
  replace HLwb := Lib.hid HLwb
  have hlwb : wz0.heap.size < wb.heap.size := by omega
  replace hswb := Lib.hid hswb
  have HQ1 := Lib.hid (HLwz0.out.trans (HLwb.out.mono HLwz0.out.size))
  have HWb := Lib.hid (HQ1.out)
  have hl0 : w.heap.size ≤ wb.heap.size := HWb.out.size
  have HBb : Hid (Below wb.heap.size wb wb) := hide (Below.refl _ _)
  have hszb : wb.heap.size ≤ wb.heap.size := Nat.le_refl _
  have HZ0_1 := Lib.hid (HBwz0.out.below HLwb.out hlwz0)
  have hz0_1 : w.heap.size < wb.heap.size := HZ0_1.out.lt
  have HX0b : Hid (Blk wb w.heap.size 27 #[vn, vl, vr, .slice Ab nb cb]) := hide HZ0_1.out
  have hxx0 : w.heap.size < wb.heap.size := HX0b.out.lt
  have HX1b : Hid (Blk wb (w.heap.size + 1) 30 #[.slice (some ad) n1 c1, v2, .int .i64 bg]) := hide (by have h := HBwb.out; rw [show wz0.heap.size = w.heap.size + 1 from by have := hswz0.out; omega] at h; exact h)
  have hxx1 : (w.heap.size + 1) < wb.heap.size := HX1b.out.lt
  clear HBwz0 HLwz0 hswz0 hlwz0
  clear HBwb HLwb hswb hlwb
  have HMb := Lib.hid (HM.out.now HWb.out)
  have HRb := Lib.hid (HR.out.now HWb.out)
  have HBsb := Lib.hid (HB'.out.now HWb.out)
  have HRvb := Lib.hid (HRv.out.now HWb.out)
  have HOb : Hid (OwnG 3 wb base g n1 cap people) := hide (own_below HO.out HWb.out (Nat.le_refl _))
  have hcb : wb.cell? (ad.add i) = some (.int .i64 x) := (HWb.out.cell (by rw [block_of_add]; exact hab)).trans hc
  have HS : Hid (∀ W, Below wb.heap.size wb W → (fun W => Below wb.heap.size wb W ∧ W.cell? (ad.add i) = some (.int .i64 x) ∧ Blk W w.heap.size 27 #[vn, vl, vr, .slice Ab nb cb] ∧ W.cell? ⟨w.heap.size + 1, 0, none⟩ = some (.slice (some ad) n1 c1)) W) := fun W hB => ⟨hB, (hB.cell (by rw [block_of_add]; exact Nat.lt_of_lt_of_le hab hl0)).trans hcb, HX0b.out.below hB hxx0, (HX1b.out.below hB hxx1).cell 0⟩
  have HMd : Hid (StrV Rn.cells 7 wb.drew wb.drew.heap.size vr rs) := hide HMb.out
  have hi2 : (i : Int) < (n1 : Int) := by omega
  go_cut [10] (fun s wx => ∃ (g2 : Nat) (i1 i2 i3 i4 i5 i6 i7 : Int), s = .pointer (some ⟨g2, 0, none⟩) ∧ Blk wx g2 60 #[.int .i64 i1, .int .i64 i2, .int .i64 i3, .int .i64 i4, .int .i64 i5, .int .i64 i6, .int .i64 i7] ∧ out x = bs.contains i4 ∧ Below wb.heap.size wb wx)
  case first =>
    have h0 := HS.out _ ((Below.refl wb.heap.size wb).drew)
    refine wp_region_held_drew (S := fun W => Below wb.heap.size wb W ∧ W.cell? (ad.add i) = some (.int .i64 x) ∧ Blk W w.heap.size 27 #[vn, vl, vr, .slice Ab nb cb] ∧ W.cell? ⟨w.heap.size + 1, 0, none⟩ = some (.slice (some ad) n1 c1)) (by kernel_rfl) (h0) (fun hHeld => ?_)
    refine held_load 0 (some 18) 27 (.tmp 4) (by rfl) (by kernel_rfl) (by kernel_rfl) (by kernel_rfl) (w.heap.size) 27 #[vn, vl, vr, .slice Ab nb cb] (fun _ _ _ h => h) (by rfl) (fun _ h => h.2.2.1) _ Try.underlying27 rfl (by kernel_rfl) (by assumption) ?_
    try simp only [Act.put, List.setIfInBounds_toArray, List.set_cons_zero, List.set_cons_succ]
    refine held_run 1 (some 19) (.fieldAddr 30 (.tmp 5) 0) ?v2_1_3 (by rfl) (by kernel_rfl) (by kernel_rfl) (by kernel_rfl) (fun _ _ _ h => h) (fun o ho w hS => ?y2_1_3) (by assumption) ?r2_1_3
    case y2_1_3 => (try dsimp only at hS); unfold execOp; simp only [ho]; go_simp; try with_reducible rfl
    try simp only [Act.put, List.setIfInBounds_toArray, List.set_cons_zero, List.set_cons_succ]
    refine held_run 2 (some 20) (.load 25 (.tmp 19)) ?v2_1_4 (by rfl) (by kernel_rfl) (by kernel_rfl) (by kernel_rfl) (fun _ _ _ h => h) (fun o ho w hS => ?y2_1_4) (by assumption) ?r2_1_4
    case y2_1_4 => (try dsimp only at hS); unfold execOp; simp only [ho]; go_simp; try with_reducible rfl
    try simp only [Act.put, List.setIfInBounds_toArray, List.set_cons_zero, List.set_cons_succ]
    refine held_run 3 (some 21) (.move (.tmp 3)) ?v2_1_5 (by rfl) (by kernel_rfl) (by kernel_rfl) (by kernel_rfl) (fun _ _ _ h => h) (fun o ho w hS => ?y2_1_5) (by assumption) ?r2_1_5
    case y2_1_5 => (try dsimp only at hS); unfold execOp; simp only [ho]; go_simp; try with_reducible rfl
    try simp only [Act.put, List.setIfInBounds_toArray, List.set_cons_zero, List.set_cons_succ]
    refine held_run 4 (some 22) (.indexAddr 25 (.tmp 20) (.tmp 21)) ?v2_1_6 (by rfl) (by kernel_rfl) (by kernel_rfl) (by kernel_rfl) (fun _ _ _ h => h) (fun o ho w hS => ?y2_1_6) (by assumption) ?r2_1_6
    case y2_1_6 => (try dsimp only at hS); unfold execOp; simp only [ho]; go_simp; try with_reducible rfl
    try simp only [Act.put, List.setIfInBounds_toArray, List.set_cons_zero, List.set_cons_succ]
    refine held_run 5 (some 23) (.load 3 (.tmp 22)) ?v2_1_7 (by rfl) (by kernel_rfl) (by kernel_rfl) (by kernel_rfl) (fun _ _ _ h => h) (fun o ho w hS => ?y2_1_7) (by assumption) ?r2_1_7
    case y2_1_7 => (try dsimp only at hS); unfold execOp; simp only [ho]; go_simp; try with_reducible rfl
    try simp only [Act.put, List.setIfInBounds_toArray, List.set_cons_zero, List.set_cons_succ]
    refine held_two 6 10 (by kernel_rfl) ?_ ?_
    · refine op_call 6 (some 24) 40 [(.tmp 18), (.tmp 23)] #[27, 3] #[.agg #[vn, vl, vr, .slice Ab nb cb], .int .i64 x] (by rfl) (by rfl) Try.func40 (by rfl) (by rfl) ?_
      refine (HC1.out x _ HMd.out).mono ?_
      rintro e w1 ⟨i1, i2, i3, i4, i5, i6, i7, b, rfl, hi4, hb1⟩
      have HI := Lib.hid hi4
      have HY1 : Hid (Below wb.heap.size wb w1) := hide ((Below.refl wb.heap.size wb).drew.trans hb1)
      clear h0 hi4
      have h0 := HS.out _ HY1.out
      refine ⟨_, rfl, h0, ?_⟩
      try simp only [Act.put, List.setIfInBounds_toArray, List.set_cons_zero, List.set_cons_succ]
      refine held_run 7 (some 17) (.move (.tmp 24)) ?v2_1_9 (by rfl) (by kernel_rfl) (by kernel_rfl) (by kernel_rfl) (fun _ _ _ h => h) (fun o ho w hS => ?y2_1_9) (by assumption) ?r2_1_9
      case y2_1_9 => (try dsimp only at hS); unfold execOp; simp only [ho]; go_simp; try with_reducible rfl
      try simp only [Act.put, List.setIfInBounds_toArray, List.set_cons_zero, List.set_cons_succ]
      refine held_run 8 (some 25) (.extract (.tmp 17) 0) ?v2_1_10 (by rfl) (by kernel_rfl) (by kernel_rfl) (by kernel_rfl) (fun _ _ _ h => h) (fun o ho w hS => ?y2_1_10) (by assumption) ?r2_1_10
      case y2_1_10 => (try dsimp only at hS); unfold execOp; simp only [ho]; go_simp; try with_reducible rfl
      try simp only [Act.put, List.setIfInBounds_toArray, List.set_cons_zero, List.set_cons_succ]
      refine held_run 9 (some 26) (.extract (.tmp 17) 1) ?v2_1_11 (by rfl) (by kernel_rfl) (by kernel_rfl) (by kernel_rfl) (fun _ _ _ h => h) (fun o ho w hS => ?y2_1_11) (by assumption) ?r2_1_11
      case y2_1_11 => (try dsimp only at hS); unfold execOp; simp only [ho]; go_simp; try with_reducible rfl
      try simp only [Act.put, List.setIfInBounds_toArray, List.set_cons_zero, List.set_cons_succ]
      refine held_one 10 (by kernel_rfl) ?_
      refine op_alloc 10 (some 10) 60 #[.int .i64 0, .int .i64 0, .int .i64 0, .int .i64 0, .int .i64 0, .int .i64 0, .int .i64 0] (by rfl) (by kernel_rfl) ?_
      intro w2 hx2 hb2
      have HZ2 := Lib.hid hx2
      have HY2 : Hid (Below wb.heap.size wb w2) := hide (HY1.out.trans (hb2.mono HY1.out.size))
      clear h0
      have h0 := HS.out _ HY2.out
      refine ⟨h0, ?_⟩
      try simp only [Act.put, List.setIfInBounds_toArray, List.set_cons_zero, List.set_cons_succ]
      refine held_one 11 (by kernel_rfl) ?_
      refine op_store_blk 11 60 (.tmp 10) (.tmp 25) (by rfl) (w1.heap.size) #[.int .i64 i1, .int .i64 i2, .int .i64 i3, .int .i64 i4, .int .i64 i5, .int .i64 i6, .int .i64 i7] rfl rfl _ _ (HZ2.out) (by kernel_rfl) rfl (by simp [Value.oneCell']) ?_
      intro w3 hx3 hon3
      have HZ3 := Lib.hid hx3
      have HY3 : Hid (Below wb.heap.size wb w3) := hide (hon3.below HY2.out HY1.out.size)
      clear h0
      have h0 := HS.out _ HY3.out
      refine ⟨h0, ?_⟩
      try simp only [Act.put]
      refine held_run 12 (some 11) (.assign (.tmp 26)) ?v2_1_14 (by rfl) (by kernel_rfl) (by kernel_rfl) (by kernel_rfl) (fun _ _ _ h => h) (fun o ho w hS => ?y2_1_14) (by assumption) ?r2_1_14
      case y2_1_14 => (try dsimp only at hS); unfold execOp; simp only [ho]; go_simp; try with_reducible rfl
      try simp only [Act.put, List.setIfInBounds_toArray, List.set_cons_zero, List.set_cons_succ]
      refine wpAnyH_done (by kernel_rfl) ?_ _
      go_wp2_with fail
      go_meet
      exact ⟨_, i1, i2, i3, i4, i5, i6, i7, rfl, HZ3.out, HI.out, HY3.out⟩
    · refine op_alloc 10 (some 10) 60 #[.int .i64 0, .int .i64 0, .int .i64 0, .int .i64 0, .int .i64 0, .int .i64 0, .int .i64 0] (by rfl) (by kernel_rfl) ?_
      intro w2 hx2 hb2
      have HZ2 := Lib.hid hx2
      have HY2 : Hid (Below wb.heap.size wb w2) := hide ((Below.refl wb.heap.size wb).drew.trans hb2)
      have hlw := hx2.lt
      have HM2 : Hid (StrV Rn.cells 7 w2 w2.heap.size vr rs) := hide (HMd.out.now hb2)
      clear h0
      have h0 := HS.out _ HY2.out
      refine ⟨h0, ?_⟩
      try simp only [Act.put, List.setIfInBounds_toArray, List.set_cons_zero, List.set_cons_succ]
      refine held_call 6 (some 24) 40 [(.tmp 18), (.tmp 23)] #[27, 3] #[.agg #[vn, vl, vr, .slice Ab nb cb], .int .i64 x] (by rfl) (by rfl) (by kernel_rfl) Try.func40 (by rfl) (by rfl) ?_
      refine (HC1.out x _ HM2.out).mono ?_
      rintro e w1 ⟨i1, i2, i3, i4, i5, i6, i7, b, rfl, hi4, hb1⟩
      have HI := Lib.hid hi4
      have HY1 : Hid (Below wb.heap.size wb w1) := hide (HY2.out.trans (hb1.mono HY2.out.size))
      have HZ1 := Lib.hid (HZ2.out.below hb1 hlw)
      clear h0 hi4
      have h0 := HS.out _ HY1.out
      refine ⟨_, rfl, h0, ?_⟩
      try simp only [Act.put, List.setIfInBounds_toArray, List.set_cons_zero, List.set_cons_succ]
      refine held_run 7 (some 17) (.move (.tmp 24)) ?v2_1_17 (by rfl) (by kernel_rfl) (by kernel_rfl) (by kernel_rfl) (fun _ _ _ h => h) (fun o ho w hS => ?y2_1_17) (by assumption) ?r2_1_17
      case y2_1_17 => (try dsimp only at hS); unfold execOp; simp only [ho]; go_simp; try with_reducible rfl
      try simp only [Act.put, List.setIfInBounds_toArray, List.set_cons_zero, List.set_cons_succ]
      refine held_run 8 (some 25) (.extract (.tmp 17) 0) ?v2_1_18 (by rfl) (by kernel_rfl) (by kernel_rfl) (by kernel_rfl) (fun _ _ _ h => h) (fun o ho w hS => ?y2_1_18) (by assumption) ?r2_1_18
      case y2_1_18 => (try dsimp only at hS); unfold execOp; simp only [ho]; go_simp; try with_reducible rfl
      try simp only [Act.put, List.setIfInBounds_toArray, List.set_cons_zero, List.set_cons_succ]
      refine held_run 9 (some 26) (.extract (.tmp 17) 1) ?v2_1_19 (by rfl) (by kernel_rfl) (by kernel_rfl) (by kernel_rfl) (fun _ _ _ h => h) (fun o ho w hS => ?y2_1_19) (by assumption) ?r2_1_19
      case y2_1_19 => (try dsimp only at hS); unfold execOp; simp only [ho]; go_simp; try with_reducible rfl
      try simp only [Act.put, List.setIfInBounds_toArray, List.set_cons_zero, List.set_cons_succ]
      refine held_one 11 (by kernel_rfl) ?_
      refine op_store_blk 11 60 (.tmp 10) (.tmp 25) (by rfl) (wb.drew.heap.size) #[.int .i64 i1, .int .i64 i2, .int .i64 i3, .int .i64 i4, .int .i64 i5, .int .i64 i6, .int .i64 i7] rfl rfl _ _ (HZ1.out) (by kernel_rfl) rfl (by simp [Value.oneCell']) ?_
      intro w3 hx3 hon3
      have HZ3 := Lib.hid hx3
      have HY3 : Hid (Below wb.heap.size wb w3) := hide (hon3.below HY1.out (Nat.le_refl _))
      clear h0
      have h0 := HS.out _ HY3.out
      refine ⟨h0, ?_⟩
      try simp only [Act.put]
      refine held_run 12 (some 11) (.assign (.tmp 26)) ?v2_1_21 (by rfl) (by kernel_rfl) (by kernel_rfl) (by kernel_rfl) (fun _ _ _ h => h) (fun o ho w hS => ?y2_1_21) (by assumption) ?r2_1_21
      case y2_1_21 => (try dsimp only at hS); unfold execOp; simp only [ho]; go_simp; try with_reducible rfl
      try simp only [Act.put, List.setIfInBounds_toArray, List.set_cons_zero, List.set_cons_succ]
      refine wpAnyH_done (by kernel_rfl) ?_ _
      go_wp2_with fail
      go_meet
      exact ⟨_, i1, i2, i3, i4, i5, i6, i7, rfl, HZ3.out, HI.out, HY3.out⟩
  obtain ⟨g2, i1, i2, i3, i4, i5, i6, i7, rfl, hg2, hi4, hcut⟩ := hcut
  have HZc := Lib.hid hg2
  have HI := Lib.hid hi4
  have HOc : Hid (OwnG 3 wc base g n1 cap people) := hide (own_below HOb.out hcut (Nat.le_refl _))
  have hcc : wc.cell? (ad.add i) = some (.int .i64 x) := (hcut.cell (by rw [block_of_add]; exact Nat.lt_of_lt_of_le hab hl0)).trans hcb
  have HBc := Lib.hid (HBb.out.trans (hcut.mono hszb))
  have HWc := Lib.hid (HWb.out.trans (hcut.mono HWb.out.size))
  have hszc : wb.heap.size ≤ wc.heap.size := Nat.le_trans hszb hcut.size
  have HX0c := Lib.hid (HX0b.out.below hcut (Nat.lt_of_lt_of_le hxx0 hszb))
  have HX1c := Lib.hid (HX1b.out.below hcut (Nat.lt_of_lt_of_le hxx1 hszb))
  have HMc := Lib.hid (HMb.out.now hcut)
  have HRc := Lib.hid (HRb.out.now hcut)
  have HBsc := Lib.hid (HBsb.out.now hcut)
  have HRvc := Lib.hid (HRvb.out.now hcut)
  clear hcut hg2 hi4 HS
  have hwc : wc = wc := rfl
  have z3 : wc.cell? ⟨g2, 3, none⟩ = some (.int .i64 i4) := HZc.out.cell 3
  have m3 : wc.cell? ⟨w.heap.size, 3, none⟩ = some (.slice Ab nb cb) := HX0c.out.cell 3
  have HPc : Hid (w.grownBy wc (some g)) := hide (grown_below HWc.out)
  cases hq : bs.contains i4 with
  | true =>
    have HE := Lib.hid (HPo.out (by rw [HI.out]; exact hq))
    go_wp2_with fail
    with_reducible refine (contains_any _ nb cb _ bs i4 true _ HBsc.out hnb hq).mono ?_
    rintro e w' ⟨rfl, rfl⟩
    go_wp2_with
      (first
       | (refine wpList_store_own 3 (.tmp 34) (.const (.int .i64 0)) rfl rfl HOc.out i hi (.int .i64 0) rfl rfl (by kernel_rfl) rfl rfl ?_
          intro w5 ho5 hon5
          have HO5 := Lib.hid (OwnG.set_ ho5)
          have HP5 := Lib.hid (grown_step HPc.out hon5)
          clear ho5 hon5))
    go_ret
    exact ⟨by rw [HE.out]; rfl, by rw [HE.out]; exact HO5.out, HP5.out⟩
  | false =>
    have HOut : Hid (out x = false) := hide (by rw [HI.out]; exact hq)
    go_wp2_with fail
    with_reducible refine (contains_any _ nb cb _ bs i4 false _ HBsc.out hnb hq).mono ?_
    rintro e w' ⟨rfl, rfl⟩
    go_wp2_with fail
    clear z3 m3
    have HS : Hid (∀ W, Below wc.heap.size wc W → (fun W => Below wc.heap.size wc W ∧ W.cell? (ad.add i) = some (.int .i64 x) ∧ Blk W w.heap.size 27 #[vn, vl, vr, .slice Ab nb cb] ∧ Blk W (w.heap.size + 1) 30 #[.slice (some ad) n1 c1, v2, .int .i64 bg] ∧ W.cell? ⟨w.heap.size + 1, 0, none⟩ = some (.slice (some ad) n1 c1)) W) := fun W hB => ⟨hB, (hB.cell (by rw [block_of_add]; exact Nat.lt_of_lt_of_le hab HWc.out.size)).trans hcc, HX0c.out.below hB (Nat.lt_of_lt_of_le hxx0 hszc), HX1c.out.below hB (Nat.lt_of_lt_of_le hxx1 hszc), (HX1c.out.below hB (Nat.lt_of_lt_of_le hxx1 hszc)).cell 0⟩
    have HMd : Hid (StrV Rn.cells 7 wc.drew wc.drew.heap.size vr rs) := hide HMc.out
    have HRvd : Hid (RowV wc.drew wc.drew.heap.size (.slice (some ad) n1 c1) runs) := hide HRvc.out
    have h0 := HS.out _ ((Below.refl wc.heap.size wc).drew)
    obtain ⟨lx, hlx⟩ : ∃ y, low x = y := ⟨_, rfl⟩
    have HLx := Lib.hid hlx
    have HBl := HLw.out x
    rw [hlx] at HBl
    have HC2x := Lib.hid (HC2.out x)
    rw [hlx] at HC2x
    clear hlx hcc
    refine wp_region_held_drew (S := fun W => Below wc.heap.size wc W ∧ W.cell? (ad.add i) = some (.int .i64 x) ∧ Blk W w.heap.size 27 #[vn, vl, vr, .slice Ab nb cb] ∧ Blk W (w.heap.size + 1) 30 #[.slice (some ad) n1 c1, v2, .int .i64 bg] ∧ W.cell? ⟨w.heap.size + 1, 0, none⟩ = some (.slice (some ad) n1 c1)) (by kernel_rfl) (h0) (fun hHeld => ?_)
    refine held_load 0 (some 36) 27 (.tmp 4) (by rfl) (by kernel_rfl) (by kernel_rfl) (by kernel_rfl) (w.heap.size) 27 #[vn, vl, vr, .slice Ab nb cb] (fun _ _ _ h => h) (by rfl) (fun _ h => h.2.2.1) _ Try.underlying27 rfl (by kernel_rfl) (by assumption) ?_
    try simp only [Act.put, List.setIfInBounds_toArray, List.set_cons_zero, List.set_cons_succ]
    refine held_load 1 (some 37) 30 (.tmp 5) (by rfl) (by kernel_rfl) (by kernel_rfl) (by kernel_rfl) (w.heap.size + 1) 30 #[.slice (some ad) n1 c1, v2, .int .i64 bg] (fun _ _ _ h => h) (by rfl) (fun _ h => h.2.2.2.1) _ Try.underlying30 rfl (by kernel_rfl) (by assumption) ?_
    try simp only [Act.put, List.setIfInBounds_toArray, List.set_cons_zero, List.set_cons_succ]
    refine held_run 2 (some 38) (.fieldAddr 30 (.tmp 5) 0) ?v6_22_25 (by rfl) (by kernel_rfl) (by kernel_rfl) (by kernel_rfl) (fun _ _ _ h => h) (fun o ho w hS => ?y6_22_25) (by assumption) ?r6_22_25
    case y6_22_25 => (try dsimp only at hS); unfold execOp; simp only [ho]; go_simp; try with_reducible rfl
    try simp only [Act.put, List.setIfInBounds_toArray, List.set_cons_zero, List.set_cons_succ]
    refine held_run 3 (some 39) (.load 25 (.tmp 38)) ?v6_22_26 (by rfl) (by kernel_rfl) (by kernel_rfl) (by kernel_rfl) (fun _ _ _ h => h) (fun o ho w hS => ?y6_22_26) (by assumption) ?r6_22_26
    case y6_22_26 => (try dsimp only at hS); unfold execOp; simp only [ho]; go_simp; try with_reducible rfl
    try simp only [Act.put, List.setIfInBounds_toArray, List.set_cons_zero, List.set_cons_succ]
    refine held_run 4 (some 40) (.move (.tmp 3)) ?v6_22_27 (by rfl) (by kernel_rfl) (by kernel_rfl) (by kernel_rfl) (fun _ _ _ h => h) (fun o ho w hS => ?y6_22_27) (by assumption) ?r6_22_27
    case y6_22_27 => (try dsimp only at hS); unfold execOp; simp only [ho]; go_simp; try with_reducible rfl
    try simp only [Act.put, List.setIfInBounds_toArray, List.set_cons_zero, List.set_cons_succ]
    refine held_run 5 (some 41) (.indexAddr 25 (.tmp 39) (.tmp 40)) ?v6_22_28 (by rfl) (by kernel_rfl) (by kernel_rfl) (by kernel_rfl) (fun _ _ _ h => h) (fun o ho w hS => ?y6_22_28) (by assumption) ?r6_22_28
    case y6_22_28 => (try dsimp only at hS); unfold execOp; simp only [ho]; go_simp; try with_reducible rfl
    try simp only [Act.put, List.setIfInBounds_toArray, List.set_cons_zero, List.set_cons_succ]
    refine held_run 6 (some 42) (.load 3 (.tmp 41)) ?v6_22_29 (by rfl) (by kernel_rfl) (by kernel_rfl) (by kernel_rfl) (fun _ _ _ h => h) (fun o ho w hS => ?y6_22_29) (by assumption) ?r6_22_29
    case y6_22_29 => (try dsimp only at hS); unfold execOp; simp only [ho]; go_simp; try with_reducible rfl
    try simp only [Act.put, List.setIfInBounds_toArray, List.set_cons_zero, List.set_cons_succ]
    refine held_call 7 (some 43) 42 [(.tmp 36), (.tmp 37), (.tmp 42)] #[27, 30, 3] #[.agg #[vn, vl, vr, .slice Ab nb cb], .agg #[.slice (some ad) n1 c1, v2, .int .i64 bg], .int .i64 x] (by rfl) (by rfl) (by kernel_rfl) Try.func42 (by rfl) (by rfl) ?_
    refine (HC2x.out _ HMd.out HRvd.out).mono ?_
    rintro e w4 ⟨rfl, hb4⟩
    have hbb4 : Below wc.heap.size wc w4 := (Below.refl wc.heap.size wc).drew.trans hb4
    have HO4 : Hid (OwnG 3 w4 base g n1 cap people) := hide (own_below HOc.out hbb4 (Nat.le_refl _))
    have HP4 : Hid (w.grownBy w4 (some g)) := hide (grown_below (HWc.out.trans (hbb4.mono HWc.out.size)))
    clear h0
    have h0 := HS.out _ hbb4
    refine ⟨_, rfl, h0, ?_⟩
    clear hb4 hbb4
    try simp only [Act.put, List.setIfInBounds_toArray, List.set_cons_zero, List.set_cons_succ]
    refine held_run 8 (some 12) (.assign (.tmp 43)) ?v6_22_31 (by rfl) (by kernel_rfl) (by kernel_rfl) (by kernel_rfl) (fun _ _ _ h => h) (fun o ho w hS => ?y6_22_31) (by assumption) ?r6_22_31
    case y6_22_31 => (try dsimp only at hS); unfold execOp; simp only [ho]; go_simp; try with_reducible rfl
    try simp only [Act.put, List.setIfInBounds_toArray, List.set_cons_zero, List.set_cons_succ]
    refine wpAnyH_done (by kernel_rfl) ?_ _
    clear h0
    by_cases hlo : lx < 0
    · have HE := Lib.hid (HPn.out HOut.out (by rw [HLx.out]; exact hlo))
      go_wp2_with fail
      go_ret
      exact ⟨by rw [HE.out]; rfl, by rw [HE.out]; exact HO4.out, HP4.out⟩
    · obtain ⟨j, rfl⟩ : ∃ j : Nat, lx = (j : Int) := ⟨lx.toNat, by omega⟩
      have hj : j < n1 := by omega
      have hj2 : (j : Int) < (n1 : Int) := by omega
      have HE := Lib.hid (HPl.out j HOut.out HLx.out)
      have hS1 := HS1.out j
      obtain ⟨q, hq2⟩ : ∃ q, (people.set i 0).getD j 0 = q := ⟨_, rfl⟩
      have HQ := Lib.hid hq2
      rw [hq2] at hS1 HE
      clear hq2
      have hwq : IntKind.i64.wrap (q + p) = q + p := IntWalk.i64_in _ (by omega)
      go_wp2_with
        (first
         | (refine wpList_store_own 3 (.tmp 48) (.const (.int .i64 0)) rfl rfl HO4.out i hi (.int .i64 0) rfl rfl (by kernel_rfl) rfl rfl ?_
            intro w5 ho5 hon5
            have HO5 := Lib.hid (OwnG.set_ ho5)
            have HP5 := Lib.hid (grown_step HP4.out hon5)
            have c5 : w5.cell? ⟨g, j, none⟩ = some (.int .i64 q) := (OwnG.cell HO5.out hj).trans (by rw [HQ.out])
            clear ho5 hon5)
         | (refine wpList_store_own 3 (.tmp 55) (.tmp 54) rfl rfl HO5.out j hj (.int .i64 (q + p)) rfl rfl (by kernel_rfl) rfl rfl ?_
            intro w6 ho6 hon6
            have HO6 := Lib.hid (OwnG.set_ ho6)
            have HP6 := Lib.hid (grown_step HP5.out hon6)
            clear ho6 hon6))
      go_ret
      exact ⟨by rw [HE.out]; rfl, by rw [HE.out]; exact HO6.out, HP6.out⟩
end Go.Proofs.Yticoeibccdplaaa
