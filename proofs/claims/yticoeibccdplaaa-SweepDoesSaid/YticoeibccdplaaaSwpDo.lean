/-
  Do of the reference of chapter 56, walked. (One heavy walk: its literals and appends come in any order.)
-/
import Derived.Test.YticoeibccdplaaaSwpDg
namespace Go.Proofs.Yticoeibccdplaaa
open Go.RowKit

set_option maxRecDepth 100000 in
set_option maxHeartbeats 40000000 in
theorem rdo_any (vn vl vr vb v1 v2 vo : Value) (bg : Int) (rs : List Rn) (bs runs opn : List Int) (sw : List Sw) (q : Sw) (w : World) (hm : StrV Rn.cells 7 w w.heap.size vr rs) (hb : RowV w w.heap.size vb bs) (hr1 : RowV w w.heap.size v1 runs) (hr2 : StrV Sw.cells 4 w w.heap.size v2 sw) (ho : RowV w w.heap.size vo opn) (hlen : runs.length ≤ 1000) (hlen2 : sw.length ≤ 1000) :
    Calls Try.prog 22 #[.agg #[vn, vl, vr, vb], .agg #[v1, v2, .int .i64 bg], vo, .agg #[.int .i64 q.run, .int .i64 q.byy, .int .i64 q.att, .int .i64 q.fnd]] w (DoR (hasR rs) (befR rs) (outR rs bs) runs bg sw opn q w) := by
  obtain ⟨A1, n1, c1, rfl, HL1, h11, h12, hr1'⟩ := hr1.nam
  obtain ⟨A, n, c, rfl, HL, h3, h4, hr⟩ := hr2.nam
  obtain ⟨Ao, no, co, rfl, HLo, ho1, ho2, hor⟩ := ho.nam
  have HR1 := Lib.hid hr1'
  have HR := Lib.hid hr
  have HM := Lib.hid hm
  have HBv := Lib.hid hb
  have HOp := Lib.hid hor
  have hno : no ≤ maxLen := Nat.le_trans ho1 ho2
  have hn1 : n1 ≤ 1000 := by rw [← HL1.out]; exact hlen
  have hn : n ≤ 1000 := by rw [← HL.out]; exact hlen2
  have HCr : Hid (∀ (x y : Value) (W : World), StrV Rn.cells 7 W W.heap.size vr rs → RowV W W.heap.size vb bs → RowV W W.heap.size x runs → StrV Sw.cells 4 W W.heap.size y (sw ++ [q]) → Calls Try.prog 14 #[.agg #[vn, vl, vr, vb], .agg #[x, y, .int .i64 bg]] W fun e w' => e = .returned (.int .i64 (rightG (hasR rs) (befR rs) (outR rs bs) runs bg (sw ++ [q]))) ∧ Below W.heap.size W w') := fun x y W a1 a2 a3 a4 => rright_any vn vl vr vb x y bg rs bs runs (sw ++ [q]) W a1 a2 a3 a4
  clear hm hb hr1 hr1' hr2 hr ho hor h3 h4 h11 h12 ho1 ho2 hlen hlen2
  have HFl : Hid ((sw ++ [q]).map Sw.cells = sw.map Sw.cells ++ [[.int .i64 q.run, .int .i64 q.byy, .int .i64 q.att, .int .i64 q.fnd]]) := by show _ = _; rw [List.map_append]; rfl
  have HLq : Hid ((sw ++ [q]).length = n + 1) := by show _ = _; rw [List.length_append, HL.out]; rfl
  obtain ⟨r, hr⟩ : ∃ r, rightG (hasR rs) (befR rs) (outR rs bs) runs bg (sw ++ [q]) = r := ⟨_, rfl⟩
  have HRr := Lib.hid hr
  rw [hr] at HCr
  clear hr
  have HD1 : Hid (∀ w', opn.contains q.run = true → Below w.heap.size w w' → DoR (hasR rs) (befR rs) (outR rs bs) runs bg sw opn q w (.returned (.tuple #[.agg #[.slice none 0 0, .slice none 0 0, .int .i64 0], .int .i64 13])) w') := fun w' h hb => ⟨hb, .inl ⟨h, rfl⟩⟩
  have HD2 : Hid (∀ w', opn.contains q.run = false → r ≠ 0 → Below w.heap.size w w' → DoR (hasR rs) (befR rs) (outR rs bs) runs bg sw opn q w (.returned (.tuple #[.agg #[.slice none 0 0, .slice none 0 0, .int .i64 0], .int .i64 r])) w') := fun w' h h0 hb => ⟨hb, .inr (.inl ⟨h, by rw [HRr.out]; exact h0, by rw [HRr.out]⟩)⟩
  have HD3 : Hid (∀ w' x y, opn.contains q.run = false → r = 0 → Below w.heap.size w w' → RowV w' w'.heap.size x runs → StrV Sw.cells 4 w' w'.heap.size y (sw ++ [q]) → DoR (hasR rs) (befR rs) (outR rs bs) runs bg sw opn q w (.returned (.tuple #[.agg #[x, y, .int .i64 bg], .int .i64 0])) w') := fun w' x y h h0 hb h1 h2 => ⟨hb, .inr (.inr ⟨h, by rw [HRr.out]; exact h0, x, y, rfl, h1, h2⟩)⟩
  clear HRr
  generalize DoR (hasR rs) (befR rs) (outR rs bs) runs bg sw opn q w = POST at *
  generalize hsw : sw ++ [q] = swq at *
  clear hsw
  obtain ⟨run, byy, att, fnd⟩ := q
  simp only at HFl HD1 HD2 HD3 ⊢
  obtain ⟨cb, hcb⟩ : ∃ b, opn.contains run = b := ⟨_, rfl⟩
  have HCb := Lib.hid hcb
  rw [hcb] at HD1 HD2 HD3
  clear hcb
  go_enter Try.func22, Try.ntmps22
  go_wp2_with fail
  have HBwz0 := (Blk.new w 27 #[vn, vl, vr, vb])
  have HLwz0 := (below_new w (.cells #[vn, vl, vr, vb] 27))
  have hswz0 : (w.alloc (.cells #[vn, vl, vr, vb] 27)).heap.size = w.heap.size + 1 := by simp
  generalize w.alloc (.cells #[vn, vl, vr, vb] 27) = wz0 at HBwz0 HLwz0 hswz0 ⊢
  replace HBwz0 := Lib.hid HBwz0
  replace HLwz0 := Lib.hid HLwz0
  have hlwz0 : w.heap.size < wz0.heap.size := by omega
  replace hswz0 := Lib.hid hswz0
  have HBwz1 := (Blk.new wz0 30 #[.slice A1 n1 c1, .slice A n c, .int .i64 bg])
  have HLwz1 := (below_new wz0 (.cells #[.slice A1 n1 c1, .slice A n c, .int .i64 bg] 30))
  have hswz1 : (wz0.alloc (.cells #[.slice A1 n1 c1, .slice A n c, .int .i64 bg] 30)).heap.size = wz0.heap.size + 1 := by simp
  generalize wz0.alloc (.cells #[.slice A1 n1 c1, .slice A n c, .int .i64 bg] 30) = wz1 at HBwz1 HLwz1 hswz1 ⊢
  replace HBwz1 := Lib.hid HBwz1
  replace HLwz1 := Lib.hid HLwz1
  have hlwz1 : wz0.heap.size < wz1.heap.size := by omega
  replace hswz1 := Lib.hid hswz1
  have HBwz2 := (Blk.new wz1 39 #[.int .i64 run, .int .i64 byy, .int .i64 att, .int .i64 fnd])
  have HLwz2 := (below_new wz1 (.cells #[.int .i64 run, .int .i64 byy, .int .i64 att, .int .i64 fnd] 39))
  have hswz2 : (wz1.alloc (.cells #[.int .i64 run, .int .i64 byy, .int .i64 att, .int .i64 fnd] 39)).heap.size = wz1.heap.size + 1 := by simp
  generalize wz1.alloc (.cells #[.int .i64 run, .int .i64 byy, .int .i64 att, .int .i64 fnd] 39) = wz2 at HBwz2 HLwz2 hswz2 ⊢
  replace HBwz2 := Lib.hid HBwz2
  replace HLwz2 := Lib.hid HLwz2
  have hlwz2 : wz1.heap.size < wz2.heap.size := by omega
  replace hswz2 := Lib.hid hswz2
  have HBwb := (Blk.new wz2 30 #[.slice none 0 0, .slice none 0 0, .int .i64 0])
  have HLwb := (below_new wz2 (.cells #[.slice none 0 0, .slice none 0 0, .int .i64 0] 30))
  have hswb : (wz2.alloc (.cells #[.slice none 0 0, .slice none 0 0, .int .i64 0] 30)).heap.size = wz2.heap.size + 1 := by simp
  generalize wz2.alloc (.cells #[.slice none 0 0, .slice none 0 0, .int .i64 0] 30) = wb at HBwb HLwb hswb ⊢
  replace HBwb := Lib.hid HBwb
  replace HLwb := Lib.hid HLwb
  have hlwb : wz2.heap.size < wb.heap.size := by omega
  replace hswb := Lib.hid hswb
  have HQ1 := Lib.hid (HLwz0.out.trans (HLwz1.out.mono HLwz0.out.size))
  have HQ2 := Lib.hid (HQ1.out.trans (HLwz2.out.mono HQ1.out.size))
  have HQ3 := Lib.hid (HQ2.out.trans (HLwb.out.mono HQ2.out.size))
  have HWb := Lib.hid (HQ3.out)
  have hl0 : w.heap.size ≤ wb.heap.size := HWb.out.size
  have HBb : Hid (Below wb.heap.size wb wb) := hide (Below.refl _ _)
  have hszb : wb.heap.size ≤ wb.heap.size := Nat.le_refl _
  have HZ0_1 := Lib.hid (HBwz0.out.below HLwz1.out hlwz0)
  have hz0_1 : w.heap.size < wz1.heap.size := HZ0_1.out.lt
  have HZ0_2 := Lib.hid (HZ0_1.out.below HLwz2.out hz0_1)
  have hz0_2 : w.heap.size < wz2.heap.size := HZ0_2.out.lt
  have HZ0_3 := Lib.hid (HZ0_2.out.below HLwb.out hz0_2)
  have hz0_3 : w.heap.size < wb.heap.size := HZ0_3.out.lt
  have HX0b : Hid (Blk wb w.heap.size 27 #[vn, vl, vr, vb]) := hide HZ0_3.out
  have hxx0 : w.heap.size < wb.heap.size := HX0b.out.lt
  have HZ1_2 := Lib.hid (HBwz1.out.below HLwz2.out hlwz1)
  have hz1_2 : wz0.heap.size < wz2.heap.size := HZ1_2.out.lt
  have HZ1_3 := Lib.hid (HZ1_2.out.below HLwb.out hz1_2)
  have hz1_3 : wz0.heap.size < wb.heap.size := HZ1_3.out.lt
  have HX1b : Hid (Blk wb (w.heap.size + 1) 30 #[.slice A1 n1 c1, .slice A n c, .int .i64 bg]) := hide (by have h := HZ1_3.out; rw [show wz0.heap.size = w.heap.size + 1 from by have := hswz0.out; omega] at h; exact h)
  have hxx1 : (w.heap.size + 1) < wb.heap.size := HX1b.out.lt
  have HZ2_3 := Lib.hid (HBwz2.out.below HLwb.out hlwz2)
  have hz2_3 : wz1.heap.size < wb.heap.size := HZ2_3.out.lt
  have HX2b : Hid (Blk wb (w.heap.size + 1 + 1) 39 #[.int .i64 run, .int .i64 byy, .int .i64 att, .int .i64 fnd]) := hide (by have h := HZ2_3.out; rw [show wz1.heap.size = w.heap.size + 1 + 1 from by have := hswz0.out; have := hswz1.out; omega] at h; exact h)
  have hxx2 : (w.heap.size + 1 + 1) < wb.heap.size := HX2b.out.lt
  have HX3b : Hid (Blk wb (w.heap.size + 1 + 1 + 1) 30 #[.slice none 0 0, .slice none 0 0, .int .i64 0]) := hide (by have h := HBwb.out; rw [show wz2.heap.size = w.heap.size + 1 + 1 + 1 from by have := hswz0.out; have := hswz1.out; have := hswz2.out; omega] at h; exact h)
  have hxx3 : (w.heap.size + 1 + 1 + 1) < wb.heap.size := HX3b.out.lt
  clear HBwz0 HLwz0 hswz0 hlwz0
  clear HBwz1 HLwz1 hswz1 hlwz1
  clear HBwz2 HLwz2 hswz2 hlwz2
  clear HBwb HLwb hswb hlwb
  have HMb := Lib.hid (HM.out.now HWb.out)
  have HR1b := Lib.hid (HR1.out.now HWb.out)
  have HRb := Lib.hid (HR.out.now HWb.out)
  have HBvb := Lib.hid (HBv.out.now HWb.out)
  have HOpb := Lib.hid (HOp.out.now HWb.out)
  have e0 : wb.cell? ⟨w.heap.size + 1 + 1, 0, none⟩ = some (.int .i64 run) := HX2b.out.cell 0
  with_reducible refine (rhas_any _ no co _ opn run cb _ HOpb.out hno HCb.out).mono ?_
  rintro e w' ⟨rfl, rfl⟩
  cases cb with
  | true =>
    go_wp2_with
      (first
       | (refine wpList_store_blk rfl 30 (.tmp 8) (.tmp 16) rfl (w.heap.size + 1 + 1 + 1) #[.slice none 0 0, .slice none 0 0, .int .i64 0] rfl rfl _ _ HX3b.out (by kernel_rfl) rfl (by simp [Value.oneCell']) ?_
          intro w2 hx2 hon2
          have HX2 := Lib.hid hx2
          have HW2 := Lib.hid (hon2.below HWb.out (by omega))
          clear hx2 hon2))
    refine bodyPost_ret (results_cell_row_tmp rfl _ _ (w.heap.size + 1 + 1 + 1) 30 _ _ _ rfl rfl HX2.out Try.underlying30 rfl (by kernel_rfl)) rfl ?_
    exact HD1.out _ (by first | rfl | trivial) HW2.out
  | false =>
    go_wp2_with fail
    clear e0
    have HS : Hid (∀ W, Below wb.heap.size wb W → (fun W => Below wb.heap.size wb W ∧ Blk W (w.heap.size + 1) 30 #[.slice A1 n1 c1, .slice A n c, .int .i64 bg] ∧ Blk W (w.heap.size + 1 + 1) 39 #[.int .i64 run, .int .i64 byy, .int .i64 att, .int .i64 fnd] ∧ W.cell? ⟨w.heap.size + 1, 0, none⟩ = some (.slice A1 n1 c1) ∧ W.cell? ⟨w.heap.size + 1, 1, none⟩ = some (.slice A n c) ∧ W.cell? ⟨w.heap.size + 1, 2, none⟩ = some (.int .i64 bg)) W) := fun W hB => ⟨hB, HX1b.out.below hB hxx1, HX2b.out.below hB hxx2, (HX1b.out.below hB hxx1).cell 0, (HX1b.out.below hB hxx1).cell 1, (HX1b.out.below hB hxx1).cell 2⟩
    go_cut [10] (fun s wx => ∃ (g : Nat) (x y : Value), s = .pointer (some ⟨g, 0, none⟩) ∧ Blk wx g 30 #[x, y, .int .i64 bg] ∧ OwnI wx wb.heap.size x runs ∧ OwnS wx wb.heap.size y (n + 1) swq ∧ wb.heap.size ≤ g ∧ Below wb.heap.size wb wx)
    case first =>
      have HB : Hid (Below wb.heap.size wb wb.drew) := hide ((Below.refl wb.heap.size wb).drew)
      have h0 := HS.out _ HB.out
      refine wp_region_held_drew (S := fun W => Below wb.heap.size wb W ∧ Blk W (w.heap.size + 1) 30 #[.slice A1 n1 c1, .slice A n c, .int .i64 bg] ∧ Blk W (w.heap.size + 1 + 1) 39 #[.int .i64 run, .int .i64 byy, .int .i64 att, .int .i64 fnd] ∧ W.cell? ⟨w.heap.size + 1, 0, none⟩ = some (.slice A1 n1 c1) ∧ W.cell? ⟨w.heap.size + 1, 1, none⟩ = some (.slice A n c) ∧ W.cell? ⟨w.heap.size + 1, 2, none⟩ = some (.int .i64 bg)) (by kernel_rfl) (h0) (fun hHeld => ?_)
      refine held_run 1 (some 18) (.fieldAddr 30 (.tmp 5) 0) ?v3_1_2 (by rfl) (by kernel_rfl) (by kernel_rfl) (by kernel_rfl) (fun _ _ _ h => h) (fun o ho w hS => ?y3_1_2) (by assumption) ?r3_1_2
      case y3_1_2 => (try dsimp only at hS); unfold execOp; simp only [ho]; go_simp; try with_reducible rfl
      try simp only [Act.put, List.setIfInBounds_toArray, List.set_cons_zero, List.set_cons_succ]
      refine held_run 2 (some 19) (.load 25 (.tmp 18)) ?v3_1_3 (by rfl) (by kernel_rfl) (by kernel_rfl) (by kernel_rfl) (fun _ _ _ h => h) (fun o ho w hS => ?y3_1_3) (by assumption) ?r3_1_3
      case y3_1_3 => (try dsimp only at hS); unfold execOp; simp only [ho]; go_simp; try with_reducible rfl
      try simp only [Act.put, List.setIfInBounds_toArray, List.set_cons_zero, List.set_cons_succ]
      refine held_run 5 (some 22) (.fieldAddr 30 (.tmp 5) 1) ?v3_1_4 (by rfl) (by kernel_rfl) (by kernel_rfl) (by kernel_rfl) (fun _ _ _ h => h) (fun o ho w hS => ?y3_1_4) (by assumption) ?r3_1_4
      case y3_1_4 => (try dsimp only at hS); unfold execOp; simp only [ho]; go_simp; try with_reducible rfl
      try simp only [Act.put, List.setIfInBounds_toArray, List.set_cons_zero, List.set_cons_succ]
      refine held_run 6 (some 23) (.load 28 (.tmp 22)) ?v3_1_5 (by rfl) (by kernel_rfl) (by kernel_rfl) (by kernel_rfl) (fun _ _ _ h => h) (fun o ho w hS => ?y3_1_5) (by assumption) ?r3_1_5
      case y3_1_5 => (try dsimp only at hS); unfold execOp; simp only [ho]; go_simp; try with_reducible rfl
      try simp only [Act.put, List.setIfInBounds_toArray, List.set_cons_zero, List.set_cons_succ]
      refine held_load 8 (some 25) 39 (.tmp 7) (by rfl) (by kernel_rfl) (by kernel_rfl) (by kernel_rfl) (w.heap.size + 1 + 1) 39 #[.int .i64 run, .int .i64 byy, .int .i64 att, .int .i64 fnd] (fun _ _ _ h => h) (by rfl) (fun _ h => h.2.2.1) _ Try.underlying39 rfl (by kernel_rfl) (by assumption) ?_
      try simp only [Act.put, List.setIfInBounds_toArray, List.set_cons_zero, List.set_cons_succ]
      refine held_run 11 (some 28) (.fieldAddr 30 (.tmp 5) 2) ?v3_1_7 (by rfl) (by kernel_rfl) (by kernel_rfl) (by kernel_rfl) (fun _ _ _ h => h) (fun o ho w hS => ?y3_1_7) (by assumption) ?r3_1_7
      case y3_1_7 => (try dsimp only at hS); unfold execOp; simp only [ho]; go_simp; try with_reducible rfl
      try simp only [Act.put, List.setIfInBounds_toArray, List.set_cons_zero, List.set_cons_succ]
      refine held_run 12 (some 29) (.load 3 (.tmp 28)) ?v3_1_8 (by rfl) (by kernel_rfl) (by kernel_rfl) (by kernel_rfl) (fun _ _ _ h => h) (fun o ho w hS => ?y3_1_8) (by assumption) ?r3_1_8
      case y3_1_8 => (try dsimp only at hS); unfold execOp; simp only [ho]; go_simp; try with_reducible rfl
      try simp only [Act.put, List.setIfInBounds_toArray, List.set_cons_zero, List.set_cons_succ]
      have hn1e : n1 = runs.length := HL1.out.symm
      have hne : n = sw.length := HL.out.symm
      subst hn1e hne
      refine do_start2 (wb := wb) (runs := runs) (sw := sw) (run := run) (byy := byy) (att := att) (fnd := fnd) (bg := bg) (A1 := A1) (c1 := c1) (A := A) (c := c) ⟨hn1, hn, HR1b.out, HRb.out, fun W hB => HS.out W hB, fun _ _ _ _ h => h, ?fin, by intros; kernel_rfl, by intros; kernel_rfl, by intros; kernel_rfl, by intros; kernel_rfl, by intros; kernel_rfl, by intros; kernel_rfl, by intros; kernel_rfl, by intros; kernel_rfl, by intros; kernel_rfl, by intros; kernel_rfl, by intros; kernel_rfl, by intros; kernel_rfl, by intros; kernel_rfl, by intros; kernel_rfl, by intros; kernel_rfl, by intros; kernel_rfl, by intros; kernel_rfl, by intros; kernel_rfl, by intros; kernel_rfl, by intros; kernel_rfl, by intros; kernel_rfl, by intros; kernel_rfl, by intros; kernel_rfl, by intros; kernel_rfl, by intros; kernel_rfl, by intros; kernel_rfl, by intros; kernel_rfl, by intros; kernel_rfl, by intros; kernel_rfl, by kernel_rfl, by kernel_rfl, by kernel_rfl, by kernel_rfl, by kernel_rfl, by kernel_rfl, by kernel_rfl, by kernel_rfl, by kernel_rfl, by kernel_rfl, by kernel_rfl, by kernel_rfl, by kernel_rfl, by kernel_rfl, by kernel_rfl, by kernel_rfl, by kernel_rfl, by kernel_rfl, by kernel_rfl, by kernel_rfl, by kernel_rfl, by kernel_rfl, by kernel_rfl, by kernel_rfl, by kernel_rfl, by kernel_rfl, by kernel_rfl, by kernel_rfl, by kernel_rfl, by kernel_rfl, by kernel_rfl, by kernel_rfl, by kernel_rfl, by kernel_rfl, by kernel_rfl, by kernel_rfl⟩ (by kernel_rfl) (by kernel_rfl) (by kernel_rfl) HB.out
      intro v10 v17 v20 v21 v24 v26 v27 v30 W g A2 c2 A8 c8 e1 e2 e3 hx h3 h10 hg hb
      have HX := Lib.hid hx
      have HI : Hid (OwnI W wb.heap.size v20 runs) := hide (OwnI.mk' h3 rfl rfl)
      have HA : Hid (OwnS W wb.heap.size v27 (sw.length + 1) swq) := hide (by show World.ownsRow _ _ _ _ _ _ _; rw [HFl.out]; simpa [Sw.cells] using h10)
      have HB2 := Lib.hid hb
      subst e1 e2 e3
      clear hx h3 h10 hb
      simp only [mkA, Act.put, List.setIfInBounds_toArray, List.set_cons_zero, List.set_cons_succ]
      go_wp2_with fail
      go_meet
      exact ⟨_, _, _, rfl, HX.out, HI.out, HA.out, hg, HB2.out⟩
    obtain ⟨g, x, y, rfl, hx, hi, ha, hgb, hcut⟩ := hcut
    have HXc := Lib.hid hx
    have HRxc := Lib.hid hi.rowV
    have HSxc := Lib.hid (OwnS.strV ha HLq.out)
    have HIc := Lib.hid hi
    have HAc := Lib.hid ha
    have h1x := own_one hi
    have h1y := own_one ha
    have hgc := hx.lt
    have HBc := Lib.hid (HBb.out.trans (hcut.mono hszb))
    have HWc := Lib.hid (HWb.out.trans (hcut.mono HWb.out.size))
    have hszc : wb.heap.size ≤ wc.heap.size := Nat.le_trans hszb hcut.size
    have HX0c := Lib.hid (HX0b.out.below hcut (Nat.lt_of_lt_of_le hxx0 hszb))
    have HX1c := Lib.hid (HX1b.out.below hcut (Nat.lt_of_lt_of_le hxx1 hszb))
    have HX2c := Lib.hid (HX2b.out.below hcut (Nat.lt_of_lt_of_le hxx2 hszb))
    have HX3c := Lib.hid (HX3b.out.below hcut (Nat.lt_of_lt_of_le hxx3 hszb))
    have HMc := Lib.hid (HMb.out.now hcut)
    have HR1c := Lib.hid (HR1b.out.now hcut)
    have HRc := Lib.hid (HRb.out.now hcut)
    have HBvc := Lib.hid (HBvb.out.now hcut)
    have HOpc := Lib.hid (HOpb.out.now hcut)
    clear hcut hx hi ha HS
    have hwc : wc = wc := rfl
    go_wp2_with
      (first
       | (refine wpList_load_g 27 (.tmp 4) rfl rfl w.heap.size rfl _ _ HX0c.out _ Try.underlying27 rfl (by kernel_rfl) ?_)
       | (refine wpList_load_g 30 (.tmp 10) rfl rfl g rfl _ _ HXc.out _ Try.underlying30 rfl (by kernel_rfl) ?_))
    with_reducible refine (HCr.out x y _ HMc.out HBvc.out HRxc.out HSxc.out).mono ?_
    rintro e w5 ⟨rfl, hb5⟩
    have HX5 := Lib.hid (HXc.out.below hb5 hgc)
    have HI5 : Hid (OwnI w5 wb.heap.size x runs) := hide (own_below HIc.out hb5 (Nat.le_refl _))
    have HA5 : Hid (OwnS w5 wb.heap.size y (n + 1) swq) := hide (own_below HAc.out hb5 (Nat.le_refl _))
    have HB5 := Lib.hid (HBc.out.trans (hb5.mono hszc))
    have HW5 := Lib.hid (HWc.out.trans (hb5.mono HWc.out.size))
    have hsz5 : wb.heap.size ≤ w5.heap.size := Nat.le_trans hszc hb5.size
    have HX05 := Lib.hid (HX0c.out.below hb5 (Nat.lt_of_lt_of_le hxx0 hszc))
    have HX15 := Lib.hid (HX1c.out.below hb5 (Nat.lt_of_lt_of_le hxx1 hszc))
    have HX25 := Lib.hid (HX2c.out.below hb5 (Nat.lt_of_lt_of_le hxx2 hszc))
    have HX35 := Lib.hid (HX3c.out.below hb5 (Nat.lt_of_lt_of_le hxx3 hszc))
    have HM5 := Lib.hid (HMc.out.now hb5)
    have HR15 := Lib.hid (HR1c.out.now hb5)
    have HR5 := Lib.hid (HRc.out.now hb5)
    have HBv5 := Lib.hid (HBvc.out.now hb5)
    have HOp5 := Lib.hid (HOpc.out.now hb5)
    clear hb5
    by_cases hr0 : r = 0
    rotate_left
    · have d0 : (r == 0) = false := beq_eq_false_iff_ne.2 hr0
      go_wp2_with
        (first
         | (refine wpList_store_blk rfl 30 (.tmp 8) (.tmp 36) rfl (w.heap.size + 1 + 1 + 1) #[.slice none 0 0, .slice none 0 0, .int .i64 0] rfl rfl _ _ HX35.out (by kernel_rfl) rfl (by simp [show (Value.slice none 0 0).oneCell' = true from rfl, show ∀ (x : Int), (Value.int .i64 x).oneCell' = true from fun _ => rfl]) ?_
            intro w6 hx6 hon6
            have HX6 := Lib.hid hx6
            have HW6 := Lib.hid (hon6.below HW5.out (by omega))
            clear hx6 hon6))
      refine bodyPost_ret (results_cell_row_tmp rfl _ _ (w.heap.size + 1 + 1 + 1) 30 _ _ _ rfl rfl HX6.out Try.underlying30 rfl (by kernel_rfl)) rfl ?_
      exact HD2.out _ (by first | rfl | trivial) hr0 HW6.out
    subst hr0
    go_wp2_with
      (first
       | (refine wpList_load_g 30 (.tmp 10) rfl rfl g rfl _ _ HX5.out _ Try.underlying30 rfl (by kernel_rfl) ?_)
       | (refine wpList_store_blk rfl 30 (.tmp 8) (.tmp 38) rfl (w.heap.size + 1 + 1 + 1) #[x, y, .int .i64 bg] rfl rfl _ _ HX35.out (by kernel_rfl) rfl (by simp [h1x, h1y, show ∀ (x : Int), (Value.int .i64 x).oneCell' = true from fun _ => rfl]) ?_
          intro w6 hx6 hon6
          have HX6 := Lib.hid hx6
          have HW6 := Lib.hid (hon6.below HW5.out (by omega))
          have HI6 : Hid (OwnI w6 wb.heap.size x runs) := hide (hon6.own HI5.out (fun e => by have := (World.ownsRow.lt HI5.out _ e).1; omega))
          have HA6 : Hid (OwnS w6 wb.heap.size y (n + 1) swq) := hide (hon6.own HA5.out (fun e => by have := (World.ownsRow.lt HA5.out _ e).1; omega))
          clear hx6 hon6))
    refine bodyPost_ret (results_cell_row_tmp rfl _ _ (w.heap.size + 1 + 1 + 1) 30 _ _ _ rfl rfl HX6.out Try.underlying30 rfl (by kernel_rfl)) rfl ?_
    exact HD3.out _ _ _ (by first | rfl | trivial) (by first | rfl | trivial) HW6.out HI6.out.rowV (OwnS.strV HA6.out HLq.out)
end Go.Proofs.Yticoeibccdplaaa
