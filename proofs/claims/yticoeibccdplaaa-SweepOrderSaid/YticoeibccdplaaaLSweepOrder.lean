/-
  SweepOrder answers true for every input. Its conditions: none. (One heavy walk.)
-/
import Derived.Test.YticoeibccdplaaaRows
import Derived.Test.YticoeibccdplaaaRowS
import Derived.Test.YticoeibccdplaaaSwpR
import Derived.Test.YticoeibccdplaaaSwpX
import Derived.Test.YticoeibccdplaaaSwpZ
import Derived.Test.YticoeibccdplaaaSwpO
import Derived.Test.YticoeibccdplaaaSwpPr
namespace Go.Proofs.Yticoeibccdplaaa
open Go.ChangeShapes Go.WideShapes Go.ChangeAt Go.RowKit

/-- whether a run is possible by the first j runs -/
def posP (bef : Int → Int → Bool) (runs D : List Int) (run : Int) (j : Nat) : Bool := !D.contains run && (runs.take j).all fun y => !(bef y run && !D.contains y)
theorem posP_zero (bef : Int → Int → Bool) (runs D : List Int) (run : Int) : posP bef runs D run 0 = !D.contains run := by unfold posP; simp
theorem posP_succ (bef : Int → Int → Bool) (runs D : List Int) (run : Int) {j : Nat} (h : j < runs.length) :
    posP bef runs D run (j + 1) = (posP bef runs D run j && !(bef (runs.getD j 0) run && !D.contains (runs.getD j 0))) := by
  unfold posP
  rw [take_at runs j h, List.all_append]
  simp only [List.all_cons, List.all_nil, Bool.and_true, Bool.and_assoc]
theorem posP_all {bef : Int → Int → Bool} {runs D : List Int} {run : Int} (h : run ∈ runs) : posP bef runs D run runs.length = true ↔ run ∈ readyL bef runs D := by
  unfold posP readyL
  rw [List.take_length, List.mem_filter]
  unfold possB
  exact ⟨fun g => ⟨h, g⟩, fun g => g.2⟩

set_option maxRecDepth 100000 in
set_option maxHeartbeats 40000000 in
theorem sweepOrder_any (w : World) (vn vl vr vb : Value) (nd : List Nd) (lf : List Lf) (rs : List Rn) (bs : List Int) (hnd : StrV Nd.cells 2 w w.heap.size vn nd) (hlf : StrV Lf.cells 8 w w.heap.size vl lf) (hrs : StrV Rn.cells 7 w w.heap.size vr rs) (hbs : RowV w w.heap.size vb bs) (v1 v2 : Value) (bg : Int) (runs : List Int) (sw : List Sw) (hru : RowV w w.heap.size v1 runs) (hsw : StrV Sw.cells 4 w w.heap.size v2 sw) :
    Calls Try.prog 9 #[.agg #[vn, vl, vr, vb], .agg #[v1, v2, .int .i64 bg]] w fun e w' => e = .returned (.bool true) ∧ Below w.heap.size w w' := by
  have HNd := Lib.hid hnd
  have HLf := Lib.hid hlf
  have HM := Lib.hid hrs
  have HBv := Lib.hid hbs
  have HR1 := Lib.hid hru
  have HR2 := Lib.hid hsw
  clear hnd hlf hrs hbs hru hsw
  obtain ⟨A1, n1, c1, rfl, HL1, h11, h12, hr1⟩ := HR1.out.nam
  have HRs := Lib.hid hr1
  have hm1 : n1 ≤ maxLen := Nat.le_trans h11 h12
  have hm1' := hm1
  unfold maxLen at hm1'
  clear hr1 h11 h12
  obtain ⟨r, hr⟩ : ∃ r, rightP rs bs runs bg sw = r := ⟨_, rfl⟩
  have HRr := Lib.hid hr
  have HCp : Hid (∀ W : World, StrV Rn.cells 7 W W.heap.size vr rs → RowV W W.heap.size vb bs → RowV W W.heap.size (.slice A1 n1 c1) runs → StrV Sw.cells 4 W W.heap.size v2 sw → Calls Try.prog 13 #[.agg #[vn, vl, vr, vb], .agg #[.slice A1 n1 c1, v2, .int .i64 bg]] W fun e w' => e = .returned (.int .i64 r) ∧ Below W.heap.size W w') := fun W a1 a2 a3 a4 => hr ▸ right_any vn vl vr vb _ _ bg rs bs runs sw W a1 a2 a3 a4
  clear hr
  go_enter Try.func9, Try.ntmps9
  go_wp2_with fail
  have HBwz0 := (Blk.new w 27 #[vn, vl, vr, vb])
  have HLwz0 := (below_new w (.cells #[vn, vl, vr, vb] 27))
  have hswz0 : (w.alloc (.cells #[vn, vl, vr, vb] 27)).heap.size = w.heap.size + 1 := by simp
  generalize w.alloc (.cells #[vn, vl, vr, vb] 27) = wz0 at HBwz0 HLwz0 hswz0 ⊢
  replace HBwz0 := Lib.hid HBwz0
  replace HLwz0 := Lib.hid HLwz0
  have hlwz0 : w.heap.size < wz0.heap.size := by omega
  replace hswz0 := Lib.hid hswz0
  have HBwb := (Blk.new wz0 30 #[.slice A1 n1 c1, v2, .int .i64 bg])
  have HLwb := (below_new wz0 (.cells #[.slice A1 n1 c1, v2, .int .i64 bg] 30))
  have hswb : (wz0.alloc (.cells #[.slice A1 n1 c1, v2, .int .i64 bg] 30)).heap.size = wz0.heap.size + 1 := by simp
  generalize wz0.alloc (.cells #[.slice A1 n1 c1, v2, .int .i64 bg] 30) = wb at HBwb HLwb hswb ⊢
  replace HBwb := Lib.hid HBwb
  replace HLwb := Lib.hid HLwb
  have hlwb : wz0.heap.size < wb.heap.size := by omega
  replace hswb := Lib.hid hswb
  have HQ1 := Lib.hid (HLwz0.out.trans (HLwb.out.mono HLwz0.out.size))
  have HWb := Lib.hid (HQ1.out)
  have hl0 : w.heap.size ≤ wb.heap.size := HWb.out.size
  have HBb : Hid (Below wb.heap.size wb wb) := hide (Below.refl _ _)
  have hszb : wb.heap.size ≤ wb.heap.size := Nat.le_refl _
  have HZ0_1 := Lib.hid (HBwz0.out.below HLwb.out hlwz0)
  have hz0_1 : w.heap.size < wb.heap.size := HZ0_1.out.lt
  have HX0b : Hid (Blk wb w.heap.size 27 #[vn, vl, vr, vb]) := hide HZ0_1.out
  have hxx0 : w.heap.size < wb.heap.size := HX0b.out.lt
  have HX1b : Hid (Blk wb (w.heap.size + 1) 30 #[.slice A1 n1 c1, v2, .int .i64 bg]) := hide (by have h := HBwb.out; rw [show wz0.heap.size = w.heap.size + 1 from by have := hswz0.out; omega] at h; exact h)
  have hxx1 : (w.heap.size + 1) < wb.heap.size := HX1b.out.lt
  clear HBwz0 HLwz0 hswz0 hlwz0
  clear HBwb HLwb hswb hlwb
  have HNdb := Lib.hid (HNd.out.now HWb.out)
  have HLfb := Lib.hid (HLf.out.now HWb.out)
  have HMb := Lib.hid (HM.out.now HWb.out)
  have HBvb := Lib.hid (HBv.out.now HWb.out)
  have HR1b := Lib.hid (HR1.out.now HWb.out)
  have HR2b := Lib.hid (HR2.out.now HWb.out)
  have HRsb := Lib.hid (HRs.out.now HWb.out)
  with_reducible refine (alive_any _).mono ?_
  rintro e w1 ⟨rfl, hb1⟩
  have HB1 := Lib.hid (HBb.out.trans (hb1.mono hszb))
  have HW1 := Lib.hid (HWb.out.trans (hb1.mono HWb.out.size))
  have hsz1 : wb.heap.size ≤ w1.heap.size := Nat.le_trans hszb hb1.size
  have HX01 := Lib.hid (HX0b.out.below hb1 (Nat.lt_of_lt_of_le hxx0 hszb))
  have HX11 := Lib.hid (HX1b.out.below hb1 (Nat.lt_of_lt_of_le hxx1 hszb))
  have HNd1 := Lib.hid (HNdb.out.now hb1)
  have HLf1 := Lib.hid (HLfb.out.now hb1)
  have HM1 := Lib.hid (HMb.out.now hb1)
  have HBv1 := Lib.hid (HBvb.out.now hb1)
  have HR11 := Lib.hid (HR1b.out.now hb1)
  have HR21 := Lib.hid (HR2b.out.now hb1)
  have HRs1 := Lib.hid (HRsb.out.now hb1)
  clear hb1
  go_wp2_with
    (first
     | (refine wpList_load_g 27 (.tmp 2) rfl rfl w.heap.size rfl _ _ HX01.out _ Try.underlying27 rfl (by kernel_rfl) ?_))
  with_reducible refine (tright_any vn vl vr vb nd lf rs bs _ HNd1.out HLf1.out HM1.out HBv1.out).mono ?_
  rintro e w2 ⟨r2, rfl, hr2, hb2⟩
  have HDn := Lib.hid hr2
  have HB2 := Lib.hid (HB1.out.trans (hb2.mono hsz1))
  have HW2 := Lib.hid (HW1.out.trans (hb2.mono HW1.out.size))
  have hsz2 : wb.heap.size ≤ w2.heap.size := Nat.le_trans hsz1 hb2.size
  have HX02 := Lib.hid (HX01.out.below hb2 (Nat.lt_of_lt_of_le hxx0 hsz1))
  have HX12 := Lib.hid (HX11.out.below hb2 (Nat.lt_of_lt_of_le hxx1 hsz1))
  have HNd2 := Lib.hid (HNd1.out.now hb2)
  have HLf2 := Lib.hid (HLf1.out.now hb2)
  have HM2 := Lib.hid (HM1.out.now hb2)
  have HBv2 := Lib.hid (HBv1.out.now hb2)
  have HR12 := Lib.hid (HR11.out.now hb2)
  have HR22 := Lib.hid (HR21.out.now hb2)
  have HRs2 := Lib.hid (HRs1.out.now hb2)
  clear hb2 hr2
  by_cases hz2 : r2 = 0
  rotate_left
  · have d0 : (r2 == 0) = false := beq_eq_false_iff_ne.2 hz2
    go_wp2_with fail
    go_ret
    exact ⟨rfl, HW2.out⟩
  have HDown := Lib.hid (HDn.out hz2)
  subst hz2
  clear HDn
  go_wp2_with
    (first
     | (refine wpList_load_g 27 (.tmp 2) rfl rfl w.heap.size rfl _ _ HX02.out _ Try.underlying27 rfl (by kernel_rfl) ?_)
     | (refine wpList_load_g 30 (.tmp 3) rfl rfl (w.heap.size + 1) rfl _ _ HX12.out _ Try.underlying30 rfl (by kernel_rfl) ?_))
  with_reducible refine (HCp.out _ HM2.out HBv2.out HR12.out HR22.out).mono ?_
  rintro e w3 ⟨rfl, hb3⟩
  have HB3 := Lib.hid (HB2.out.trans (hb3.mono hsz2))
  have HW3 := Lib.hid (HW2.out.trans (hb3.mono HW2.out.size))
  have hsz3 : wb.heap.size ≤ w3.heap.size := Nat.le_trans hsz2 hb3.size
  have HX03 := Lib.hid (HX02.out.below hb3 (Nat.lt_of_lt_of_le hxx0 hsz2))
  have HX13 := Lib.hid (HX12.out.below hb3 (Nat.lt_of_lt_of_le hxx1 hsz2))
  have HNd3 := Lib.hid (HNd2.out.now hb3)
  have HLf3 := Lib.hid (HLf2.out.now hb3)
  have HM3 := Lib.hid (HM2.out.now hb3)
  have HBv3 := Lib.hid (HBv2.out.now hb3)
  have HR13 := Lib.hid (HR12.out.now hb3)
  have HR23 := Lib.hid (HR22.out.now hb3)
  have HRs3 := Lib.hid (HRs2.out.now hb3)
  clear hb3
  by_cases hz3 : r = 0
  rotate_left
  · have d0 : (r == 0) = false := beq_eq_false_iff_ne.2 hz3
    go_wp2_with fail
    go_ret
    exact ⟨rfl, HW3.out⟩
  have HR0 : Hid (rightP rs bs runs bg sw = 0) := hide (HRr.out.trans hz3)
  subst hz3
  obtain ⟨hlen, hall, _, _, _, h1e⟩ := right_says ((right_eq rs bs runs bg sw).symm.trans HR0.out)
  have hinc := inc_runs h1e
  have hlim : runs.length ≤ 1000 := by omega
  have hlim1 : n1 ≤ 1000 := by rw [← HL1.out]; exact hlim
  have hfull : (ordN (befP rs) runs).length = runs.length := ord_full HDown.out hall (inc_nodup hinc)
  have HLe : Hid (∀ i, i < n1 → ∀ run, run ∈ readyL (befP rs) runs ((ordN (befP rs) runs).take i) → (ordN (befP rs) runs).getD i 0 ≤ run) := fun i hi run hr => ord_least hinc (by rw [hfull, HL1.out]; exact hi) hr
  have HMe : Hid (∀ i, i < n1 → (ordN (befP rs) runs).getD i 0 ∈ readyL (befP rs) runs ((ordN (befP rs) runs).take i)) := fun i hi => ord_ready (by rw [hfull, HL1.out]; exact hi)
  have HOrd : Hid (∀ W : World, StrV Rn.cells 7 W W.heap.size vr rs → RowV W W.heap.size (.slice A1 n1 c1) runs → Calls Try.prog 17 #[.agg #[vn, vl, vr, vb], .agg #[.slice A1 n1 c1, v2, .int .i64 bg]] W fun e w' => ∃ A c, e = .returned (.slice A n1 c) ∧ n1 ≤ c ∧ Ints w' w'.heap.size A n1 (ordN (befP rs) runs) ∧ Below W.heap.size W w') := fun W a1 a2 => by
    refine (order_any vn vl vr vb _ _ bg rs runs [] W a1 a2 hlim).mono ?_
    rintro e w' ⟨v, rfl, ho, hb⟩
    obtain ⟨A, n, c, rfl, HLo, h2, _, h3⟩ := ho.rowV.nam
    have hn : n = n1 := by rw [← HLo.out, hfull, HL1.out]
    subst hn
    exact ⟨A, c, rfl, h2, h3, hb⟩
  have HPc : Hid (∀ (a b : Int) (W : World), a ∈ runs → b ∈ runs → StrV Rn.cells 7 W W.heap.size vr rs → Calls Try.prog 34 #[.agg #[vn, vl, vr, vb], .int .i64 a, .int .i64 b] W fun e w' => e = .returned (.bool (befP rs a b)) ∧ Below W.heap.size W w') := fun a b W ha hb a1 => bef_eq (hall a ha) (hall b hb) ▸ precedes_any vn vl vr vb rs a b W a1
  clear hlen hall h1e hinc hlim hfull HDown HR0 HRr HCp
  generalize befP rs = bef at *
  generalize ordN bef runs = O at *
  go_wp2_with
    (first
     | (refine wpList_load_g 27 (.tmp 2) rfl rfl w.heap.size rfl _ _ HX03.out _ Try.underlying27 rfl (by kernel_rfl) ?_)
     | (refine wpList_load_g 30 (.tmp 3) rfl rfl (w.heap.size + 1) rfl _ _ HX13.out _ Try.underlying30 rfl (by kernel_rfl) ?_))
  with_reducible refine (HOrd.out _ HM3.out HR13.out).mono ?_
  rintro e w4 ⟨AO, cO, rfl, hcO, ho, hb4⟩
  have HO4 := Lib.hid ho
  have HB4 := Lib.hid (HB3.out.trans (hb4.mono hsz3))
  have HW4 := Lib.hid (HW3.out.trans (hb4.mono HW3.out.size))
  have hsz4 : wb.heap.size ≤ w4.heap.size := Nat.le_trans hsz3 hb4.size
  have HX04 := Lib.hid (HX03.out.below hb4 (Nat.lt_of_lt_of_le hxx0 hsz3))
  have HX14 := Lib.hid (HX13.out.below hb4 (Nat.lt_of_lt_of_le hxx1 hsz3))
  have HNd4 := Lib.hid (HNd3.out.now hb4)
  have HLf4 := Lib.hid (HLf3.out.now hb4)
  have HM4 := Lib.hid (HM3.out.now hb4)
  have HBv4 := Lib.hid (HBv3.out.now hb4)
  have HR14 := Lib.hid (HR13.out.now hb4)
  have HR24 := Lib.hid (HR23.out.now hb4)
  have HRs4 := Lib.hid (HRs3.out.now hb4)
  clear hb4 ho
  have s0 : w4.cell? ⟨w.heap.size + 1, 0, none⟩ = some (.slice A1 n1 c1) := HX14.out.cell 0
  have s1 : w4.cell? ⟨w.heap.size + 1, 1, none⟩ = some (v2) := HX14.out.cell 1
  have s2 : w4.cell? ⟨w.heap.size + 1, 2, none⟩ = some (.int .i64 bg) := HX14.out.cell 2
  have e0 : ((n1 : Int) == (n1 : Int)) = true := beq_self_eq_true _
  go_wp2_with fail
  clear s0 s1 s2 e0 HOrd
  go_loopw [6] (fun vi wr => ∃ i : Nat, i ≤ n1 ∧ vi = .int .i64 i ∧ Below w4.heap.size w4 wr) (fun vi _ => n1 - (intOf vi).toNat)
  case atStart => exact ⟨0, by omega, rfl, Below.refl _ _⟩
  case round =>
    obtain ⟨i, hi, rfl, hbr⟩ := hrel
    have HQi := Lib.hid hbr
    obtain ⟨wi, rfl⟩ : ∃ wi : World, wi = wr := ⟨_, rfl⟩
    have HBi := Lib.hid (HB4.out.trans (hbr.mono hsz4))
    have HWi := Lib.hid (HW4.out.trans (hbr.mono HW4.out.size))
    have hszi : wb.heap.size ≤ wi.heap.size := Nat.le_trans hsz4 hbr.size
    have HX0i := Lib.hid (HX04.out.below hbr (Nat.lt_of_lt_of_le hxx0 hsz4))
    have HX1i := Lib.hid (HX14.out.below hbr (Nat.lt_of_lt_of_le hxx1 hsz4))
    have HMi := Lib.hid (HM4.out.now hbr)
    have HRsi := Lib.hid (HRs4.out.now hbr)
    have HOi := Lib.hid (HO4.out.now hbr)
    clear hbr
    have s0 : wi.cell? ⟨w.heap.size + 1, 0, none⟩ = some (.slice A1 n1 c1) := HX1i.out.cell 0
    have s1 : wi.cell? ⟨w.heap.size + 1, 1, none⟩ = some (v2) := HX1i.out.cell 1
    have s2 : wi.cell? ⟨w.heap.size + 1, 2, none⟩ = some (.int .i64 bg) := HX1i.out.cell 2
    by_cases hlt : i < n1
    rotate_left
    · obtain rfl : i = n1 := by omega
      go_wp2_with fail
      go_ret
      exact ⟨rfl, HWi.out⟩
    clear s0 s1 s2
    obtain ⟨ad, rfl, hab, hc⟩ := HOi.out.int hlt
    obtain ⟨adr, rfl, _, _⟩ := HRsi.out.int hlt
    have HMi_ := Lib.hid (HMe.out i hlt)
    have HLi_ := Lib.hid (HLe.out i hlt)
    have HFri : Hid (Ints wi wi.heap.size (some ad) i (O.take i)) := hide (HOi.out.ifront hi)
    have him : i ≤ maxLen := Nat.le_trans hi hm1
    have hic : i ≤ cO := Nat.le_trans hi hcO
    generalize O.getD i 0 = x at *
    generalize O.take i = D at *
    obtain ⟨hx1, hx2, _⟩ := ready_mem HMi_.out
    have hx1' : runs.contains x = true := by simpa using hx1
    have s0 : wi.cell? ⟨w.heap.size + 1, 0, none⟩ = some (.slice (some adr) n1 c1) := HX1i.out.cell 0
    have s1 : wi.cell? ⟨w.heap.size + 1, 1, none⟩ = some (v2) := HX1i.out.cell 1
    have s2 : wi.cell? ⟨w.heap.size + 1, 2, none⟩ = some (.int .i64 bg) := HX1i.out.cell 2
    go_wp2_with fail
    clear s1 s2
    have HRsid : Hid (Ints wi.drew wi.drew.heap.size (some adr) n1 runs) := hide HRsi.out
    have HFrid : Hid (Ints wi.drew wi.drew.heap.size (some ad) i D) := hide HFri.out
    refine wp_region_held_drew (S := fun W => W.cell? ⟨w.heap.size + 1, 0, none⟩ = some (.slice (some adr) n1 c1) ∧ W.cell? (ad.add i) = some (.int .i64 x)) (by kernel_rfl) (⟨s0, hc⟩) (fun hHeld => ?_)
    refine held_run 0 (some 37) (.fieldAddr 30 (.tmp 3) 0) ?v11_1_2 (by rfl) (by kernel_rfl) (by kernel_rfl) (by kernel_rfl) (fun _ _ _ h => h) (fun o ho w hS => ?y11_1_2) (by assumption) ?r11_1_2
    case y11_1_2 => (try dsimp only at hS); unfold execOp; simp only [ho]; go_simp; try with_reducible rfl
    try simp only [Act.put, List.setIfInBounds_toArray, List.set_cons_zero, List.set_cons_succ]
    refine held_run 1 (some 38) (.load 25 (.tmp 37)) ?v11_1_3 (by rfl) (by kernel_rfl) (by kernel_rfl) (by kernel_rfl) (fun _ _ _ h => h) (fun o ho w hS => ?y11_1_3) (by assumption) ?r11_1_3
    case y11_1_3 => (try dsimp only at hS); unfold execOp; simp only [ho]; go_simp; try with_reducible rfl
    try simp only [Act.put, List.setIfInBounds_toArray, List.set_cons_zero, List.set_cons_succ]
    refine held_run 2 (some 39) (.move (.tmp 5)) ?v11_1_4 (by rfl) (by kernel_rfl) (by kernel_rfl) (by kernel_rfl) (fun _ _ _ h => h) (fun o ho w hS => ?y11_1_4) (by assumption) ?r11_1_4
    case y11_1_4 => (try dsimp only at hS); unfold execOp; simp only [ho]; go_simp; try with_reducible rfl
    try simp only [Act.put, List.setIfInBounds_toArray, List.set_cons_zero, List.set_cons_succ]
    refine held_run 3 (some 40) (.move (.tmp 6)) ?v11_1_5 (by rfl) (by kernel_rfl) (by kernel_rfl) (by kernel_rfl) (fun _ _ _ h => h) (fun o ho w hS => ?y11_1_5) (by assumption) ?r11_1_5
    case y11_1_5 => (try dsimp only at hS); unfold execOp; simp only [ho]; go_simp; try with_reducible rfl
    try simp only [Act.put, List.setIfInBounds_toArray, List.set_cons_zero, List.set_cons_succ]
    refine held_run 4 (some 41) (.indexAddr 25 (.tmp 39) (.tmp 40)) ?v11_1_6 (by rfl) (by kernel_rfl) (by kernel_rfl) (by kernel_rfl) (fun _ _ _ h => h) (fun o ho w hS => ?y11_1_6) (by assumption) ?r11_1_6
    case y11_1_6 => (try dsimp only at hS); unfold execOp; simp only [ho]; go_simp; try with_reducible rfl
    try simp only [Act.put, List.setIfInBounds_toArray, List.set_cons_zero, List.set_cons_succ]
    refine held_run 5 (some 42) (.load 3 (.tmp 41)) ?v11_1_7 (by rfl) (by kernel_rfl) (by kernel_rfl) (by kernel_rfl) (fun _ _ _ h => h) (fun o ho w hS => ?y11_1_7) (by assumption) ?r11_1_7
    case y11_1_7 => (try dsimp only at hS); unfold execOp; simp only [ho]; go_simp; try with_reducible rfl
    try simp only [Act.put, List.setIfInBounds_toArray, List.set_cons_zero, List.set_cons_succ]
    refine held_call 6 (some 43) 33 [(.tmp 38), (.tmp 42)] #[25, 3] #[.slice (some adr) n1 c1, .int .i64 x] (by rfl) (by rfl) (by kernel_rfl) Try.func33 (by rfl) (by rfl) ?_
    refine (rhas_any (some adr) n1 c1 _ runs x true _ HRsid.out hm1 hx1').mono ?_
    rintro e w' ⟨rfl, rfl⟩
    refine ⟨_, rfl, ⟨s0, hc⟩, ?_⟩
    try simp only [Act.put, List.setIfInBounds_toArray, List.set_cons_zero, List.set_cons_succ]
    refine held_run 7 (some 44) (.unOp .not 4 (.tmp 43)) ?v11_1_9 (by rfl) (by kernel_rfl) (by kernel_rfl) (by kernel_rfl) (fun _ _ _ h => h) (fun o ho w hS => ?y11_1_9) (by assumption) ?r11_1_9
    case y11_1_9 => (try dsimp only at hS); unfold execOp; simp only [ho]; go_simp; try with_reducible rfl
    try simp only [Act.put, List.setIfInBounds_toArray, List.set_cons_zero, List.set_cons_succ]
    refine held_run 8 (some 45) (.move (.tmp 44)) ?v11_1_10 (by rfl) (by kernel_rfl) (by kernel_rfl) (by kernel_rfl) (fun _ _ _ h => h) (fun o ho w hS => ?y11_1_10) (by assumption) ?r11_1_10
    case y11_1_10 => (try dsimp only at hS); unfold execOp; simp only [ho]; go_simp; try with_reducible rfl
    try simp only [Act.put, List.setIfInBounds_toArray, List.set_cons_zero, List.set_cons_succ]
    refine held_run 9 (some 46) (.move (.tmp 5)) ?v11_1_11 (by rfl) (by kernel_rfl) (by kernel_rfl) (by kernel_rfl) (fun _ _ _ h => h) (fun o ho w hS => ?y11_1_11) (by assumption) ?r11_1_11
    case y11_1_11 => (try dsimp only at hS); unfold execOp; simp only [ho]; go_simp; try with_reducible rfl
    try simp only [Act.put, List.setIfInBounds_toArray, List.set_cons_zero, List.set_cons_succ]
    refine held_run 10 (some 47) (.move (.tmp 6)) ?v11_1_12 (by rfl) (by kernel_rfl) (by kernel_rfl) (by kernel_rfl) (fun _ _ _ h => h) (fun o ho w hS => ?y11_1_12) (by assumption) ?r11_1_12
    case y11_1_12 => (try dsimp only at hS); unfold execOp; simp only [ho]; go_simp; try with_reducible rfl
    try simp only [Act.put, List.setIfInBounds_toArray, List.set_cons_zero, List.set_cons_succ]
    refine held_run 11 (some 48) (.slice 25 (.tmp 46) none (some (.tmp 47)) none) ?v11_1_13 (by rfl) (by kernel_rfl) (by kernel_rfl) (by kernel_rfl) (fun _ _ _ h => h) (fun o ho w hS => ?y11_1_13) (by assumption) ?r11_1_13
    case y11_1_13 => (try dsimp only at hS); unfold execOp; simp only [ho]; go_simp; try with_reducible rfl
    try simp only [Act.put, List.setIfInBounds_toArray, List.set_cons_zero, List.set_cons_succ]
    refine held_run 12 (some 49) (.move (.tmp 5)) ?v11_1_14 (by rfl) (by kernel_rfl) (by kernel_rfl) (by kernel_rfl) (fun _ _ _ h => h) (fun o ho w hS => ?y11_1_14) (by assumption) ?r11_1_14
    case y11_1_14 => (try dsimp only at hS); unfold execOp; simp only [ho]; go_simp; try with_reducible rfl
    try simp only [Act.put, List.setIfInBounds_toArray, List.set_cons_zero, List.set_cons_succ]
    refine held_run 13 (some 50) (.move (.tmp 6)) ?v11_1_15 (by rfl) (by kernel_rfl) (by kernel_rfl) (by kernel_rfl) (fun _ _ _ h => h) (fun o ho w hS => ?y11_1_15) (by assumption) ?r11_1_15
    case y11_1_15 => (try dsimp only at hS); unfold execOp; simp only [ho]; go_simp; try with_reducible rfl
    try simp only [Act.put, List.setIfInBounds_toArray, List.set_cons_zero, List.set_cons_succ]
    refine held_run 14 (some 51) (.indexAddr 25 (.tmp 49) (.tmp 50)) ?v11_1_16 (by rfl) (by kernel_rfl) (by kernel_rfl) (by kernel_rfl) (fun _ _ _ h => h) (fun o ho w hS => ?y11_1_16) (by assumption) ?r11_1_16
    case y11_1_16 => (try dsimp only at hS); unfold execOp; simp only [ho]; go_simp; try with_reducible rfl
    try simp only [Act.put, List.setIfInBounds_toArray, List.set_cons_zero, List.set_cons_succ]
    refine held_run 15 (some 52) (.load 3 (.tmp 51)) ?v11_1_17 (by rfl) (by kernel_rfl) (by kernel_rfl) (by kernel_rfl) (fun _ _ _ h => h) (fun o ho w hS => ?y11_1_17) (by assumption) ?r11_1_17
    case y11_1_17 => (try dsimp only at hS); unfold execOp; simp only [ho]; go_simp; try with_reducible rfl
    try simp only [Act.put, List.setIfInBounds_toArray, List.set_cons_zero, List.set_cons_succ]
    refine held_call 16 (some 53) 33 [(.tmp 48), (.tmp 52)] #[25, 3] #[.slice (some ad) i cO, .int .i64 x] (by rfl) (by rfl) (by kernel_rfl) Try.func33 (by rfl) (by rfl) ?_
    refine (rhas_any (some ad) i cO _ D x false _ HFrid.out him hx2).mono ?_
    rintro e w' ⟨rfl, rfl⟩
    refine ⟨_, rfl, ⟨s0, hc⟩, ?_⟩
    try simp only [Act.put, List.setIfInBounds_toArray, List.set_cons_zero, List.set_cons_succ]
    refine held_run 17 (some 54) (.pick (.tmp 45) (.const (Value.bool true)) (.tmp 53)) ?v11_1_19 (by rfl) (by kernel_rfl) (by kernel_rfl) (by kernel_rfl) (fun _ _ _ h => h) (fun o ho w hS => ?y11_1_19) (by assumption) ?r11_1_19
    case y11_1_19 => (try dsimp only at hS); unfold execOp; simp only [ho]; go_simp; try with_reducible rfl
    try simp only [Act.put, List.setIfInBounds_toArray, List.set_cons_zero, List.set_cons_succ]
    refine wpAnyH_done (by kernel_rfl) ?_ _
    go_wp2_with fail
    clear s0 HRsid HFrid hx1 hx2 hx1'
    go_loopw [7] (fun vk wr => ∃ k : Nat, k ≤ n1 ∧ vk = .int .i64 k ∧ Below wi.heap.size wi wr) (fun vk _ => n1 - (intOf vk).toNat)
    case atStart => exact ⟨0, by omega, rfl, (Below.refl _ _).drew⟩
    case round =>
      obtain ⟨k, hk, rfl, hbr⟩ := hrel
      have HQk := Lib.hid hbr
      obtain ⟨wk, rfl⟩ : ∃ wk : World, wk = wr := ⟨_, rfl⟩
      have HBk := Lib.hid (HBi.out.trans (hbr.mono hszi))
      have HWk := Lib.hid (HWi.out.trans (hbr.mono HWi.out.size))
      have hszk : wb.heap.size ≤ wk.heap.size := Nat.le_trans hszi hbr.size
      have HX0k := Lib.hid (HX0i.out.below hbr (Nat.lt_of_lt_of_le hxx0 hszi))
      have HX1k := Lib.hid (HX1i.out.below hbr (Nat.lt_of_lt_of_le hxx1 hszi))
      have HMk := Lib.hid (HMi.out.now hbr)
      have HRsk := Lib.hid (HRsi.out.now hbr)
      have HOk := Lib.hid (HOi.out.now hbr)
      have HFrk := Lib.hid (HFri.out.now hbr)
      clear hbr
      have s0 : wk.cell? ⟨w.heap.size + 1, 0, none⟩ = some (.slice (some adr) n1 c1) := HX1k.out.cell 0
      have s1 : wk.cell? ⟨w.heap.size + 1, 1, none⟩ = some (v2) := HX1k.out.cell 1
      have s2 : wk.cell? ⟨w.heap.size + 1, 2, none⟩ = some (.int .i64 bg) := HX1k.out.cell 2
      by_cases hlk : k < n1
      rotate_left
      · obtain rfl : k = n1 := by omega
        go_wp2_with fail
        go_roundw
        case rel => exact ⟨i + 1, by omega, by go_num, HQi.out.trans (HQk.out.mono HQi.out.size)⟩
        case measure => simp [intOf]; omega
      obtain ⟨_, he, _, hcr⟩ := HRsk.out.int hlk
      obtain rfl := Option.some.inj he
      clear he
      have hrm : runs.getD k 0 ∈ runs := mem_at (by rw [HL1.out]; exact hlk)
      generalize runs.getD k 0 = run at *
      obtain ⟨ct, hct⟩ : ∃ b, D.contains run = b := ⟨_, rfl⟩
      have HP0 : Hid (posP bef runs D run 0 = !ct) := hide (by rw [posP_zero, hct])
      go_wp2_with fail
      with_reducible refine (rhas_any (some ad) i cO _ D run ct _ HFrk.out him hct).mono ?_
      rintro e w' ⟨rfl, rfl⟩
      go_wp2_with fail
      clear s0 s1 s2 hcr hct
      go_loopw [9, 10] (fun vp vj wr => ∃ j : Nat, j ≤ n1 ∧ vj = .int .i64 j ∧ vp = .bool (posP bef runs D run j) ∧ Below wk.heap.size wk wr) (fun _ vj _ => n1 - (intOf vj).toNat)
      case atStart => exact ⟨0, by omega, rfl, by rw [HP0.out], Below.refl _ _⟩
      case round =>
        obtain ⟨j, hj, rfl, rfl, hbr⟩ := hrel
        have HQj := Lib.hid hbr
        obtain ⟨wj, rfl⟩ : ∃ wj : World, wj = wr := ⟨_, rfl⟩
        have HBj := Lib.hid (HBk.out.trans (hbr.mono hszk))
        have HWj := Lib.hid (HWk.out.trans (hbr.mono HWk.out.size))
        have hszj : wb.heap.size ≤ wj.heap.size := Nat.le_trans hszk hbr.size
        have HX0j := Lib.hid (HX0k.out.below hbr (Nat.lt_of_lt_of_le hxx0 hszk))
        have HX1j := Lib.hid (HX1k.out.below hbr (Nat.lt_of_lt_of_le hxx1 hszk))
        have HMj := Lib.hid (HMk.out.now hbr)
        have HRsj := Lib.hid (HRsk.out.now hbr)
        have HOj := Lib.hid (HOk.out.now hbr)
        have HFrj := Lib.hid (HFrk.out.now hbr)
        clear hbr
        have HQij : Hid (Below wi.heap.size wi wj) := hide (HQk.out.trans (HQj.out.mono HQk.out.size))
        have s0 : wj.cell? ⟨w.heap.size + 1, 0, none⟩ = some (.slice (some adr) n1 c1) := HX1j.out.cell 0
        have s1 : wj.cell? ⟨w.heap.size + 1, 1, none⟩ = some (v2) := HX1j.out.cell 1
        have s2 : wj.cell? ⟨w.heap.size + 1, 2, none⟩ = some (.int .i64 bg) := HX1j.out.cell 2
        by_cases hlj : j < n1
        rotate_left
        · obtain rfl : j = n1 := by omega
          have hcx : wj.cell? (ad.add i) = some (.int .i64 x) := (HQij.out.cell (by rw [block_of_add]; exact hab)).trans hc
          have hpn : posP bef runs D run j = true ↔ run ∈ readyL bef runs D := by have h := posP_all (bef := bef) (D := D) hrm; rw [HL1.out] at h; exact h
          generalize posP bef runs D run j = pb at *
          cases pb with
          | false =>
            have hne : (run == x) = false := beq_eq_false_iff_ne.2 (fun h => by subst h; exact Bool.noConfusion (hpn.2 HMi_.out))
            have hne' : run ≠ x := fun h => by subst h; exact Bool.noConfusion (hpn.2 HMi_.out)
            clear hpn
            go_wp2_with fail
            go_roundw
            case rel => exact ⟨k + 1, by omega, by go_num, HQij.out⟩
            case measure => simp [intOf]; omega
          | true =>
            have hle : decide (run < x) = false := decide_eq_false (by have := HLi_.out run (hpn.1 rfl); omega)
            clear hpn
            go_wp2_with fail
            go_roundw
            case rel => exact ⟨k + 1, by omega, by go_num, HQij.out⟩
            case measure => simp [intOf]; omega
        obtain ⟨_, he, hay, hcy⟩ := HRsj.out.int hlj
        obtain rfl := Option.some.inj he
        clear he
        have hym : runs.getD j 0 ∈ runs := mem_at (by rw [HL1.out]; exact hlj)
        have HSt := Lib.hid (posP_succ bef runs D run (j := j) (by rw [HL1.out]; exact hlj))
        generalize runs.getD j 0 = y at *
        generalize posP bef runs D run j = pb at *
        obtain ⟨cv, hcv⟩ : ∃ b, D.contains y = b := ⟨_, rfl⟩
        obtain ⟨bv, hbv⟩ : ∃ b, bef y run = b := ⟨_, rfl⟩
        have HCv := Lib.hid hcv
        rw [hcv, hbv] at HSt
        have HPy : Hid (∀ W : World, StrV Rn.cells 7 W W.heap.size vr rs → Calls Try.prog 34 #[.agg #[vn, vl, vr, vb], .int .i64 y, .int .i64 run] W fun e w' => e = .returned (.bool bv) ∧ Below W.heap.size W w') := fun W a1 => hbv ▸ HPc.out y run W hym hrm a1
        clear hcv hbv hym s1 s2
        go_wp2_with fail
        have HS : Hid (∀ W, Below wj.heap.size wj W → (fun W => Below wj.heap.size wj W ∧ Blk W w.heap.size 27 #[vn, vl, vr, vb] ∧ W.cell? ⟨w.heap.size + 1, 0, none⟩ = some (.slice (some adr) n1 c1) ∧ W.cell? (adr.add j) = some (.int .i64 y)) W) := fun W hB => ⟨hB, HX0j.out.below hB (Nat.lt_of_lt_of_le hxx0 hszj), (HX1j.out.below hB (Nat.lt_of_lt_of_le hxx1 hszj)).cell 0, (hB.cell (by rw [block_of_add]; exact hay)).trans hcy⟩
        have h0 := HS.out _ ((Below.refl wj.heap.size wj).drew)
        have HMjd : Hid (StrV Rn.cells 7 wj.drew wj.drew.heap.size vr rs) := hide HMj.out
        cases pb with
        | false =>
          refine wp_region_held_drew (S := fun W => Below wj.heap.size wj W ∧ Blk W w.heap.size 27 #[vn, vl, vr, vb] ∧ W.cell? ⟨w.heap.size + 1, 0, none⟩ = some (.slice (some adr) n1 c1) ∧ W.cell? (adr.add j) = some (.int .i64 y)) (by kernel_rfl) (h0) (fun hHeld => ?_)
          refine held_run 0 (some 80) (.move (.tmp 9)) ?v21_20_21 (by rfl) (by kernel_rfl) (by kernel_rfl) (by kernel_rfl) (fun _ _ _ h => h) (fun o ho w hS => ?y21_20_21) (by assumption) ?r21_20_21
          case y21_20_21 => (try dsimp only at hS); unfold execOp; simp only [ho]; go_simp; try with_reducible rfl
          try simp only [Act.put, List.setIfInBounds_toArray, List.set_cons_zero, List.set_cons_succ]
          refine held_run 1 (some 81) (.move (.tmp 80)) ?v21_20_22 (by rfl) (by kernel_rfl) (by kernel_rfl) (by kernel_rfl) (fun _ _ _ h => h) (fun o ho w hS => ?y21_20_22) (by assumption) ?r21_20_22
          case y21_20_22 => (try dsimp only at hS); unfold execOp; simp only [ho]; go_simp; try with_reducible rfl
          try simp only [Act.put, List.setIfInBounds_toArray, List.set_cons_zero, List.set_cons_succ]
          refine held_skip 2 (some 82) (by rfl) (by kernel_rfl) (by kernel_rfl) (by kernel_rfl) (fun _ _ _ h => h) (by assumption) ?_
          try simp only [Act.put, List.setIfInBounds_toArray, List.set_cons_zero, List.set_cons_succ]
          refine held_skip 3 (some 83) (by rfl) (by kernel_rfl) (by kernel_rfl) (by kernel_rfl) (fun _ _ _ h => h) (by assumption) ?_
          try simp only [Act.put, List.setIfInBounds_toArray, List.set_cons_zero, List.set_cons_succ]
          refine held_skip 4 (some 84) (by rfl) (by kernel_rfl) (by kernel_rfl) (by kernel_rfl) (fun _ _ _ h => h) (by assumption) ?_
          try simp only [Act.put, List.setIfInBounds_toArray, List.set_cons_zero, List.set_cons_succ]
          refine held_skip 5 (some 85) (by rfl) (by kernel_rfl) (by kernel_rfl) (by kernel_rfl) (fun _ _ _ h => h) (by assumption) ?_
          try simp only [Act.put, List.setIfInBounds_toArray, List.set_cons_zero, List.set_cons_succ]
          refine held_skip 6 (some 86) (by rfl) (by kernel_rfl) (by kernel_rfl) (by kernel_rfl) (fun _ _ _ h => h) (by assumption) ?_
          try simp only [Act.put, List.setIfInBounds_toArray, List.set_cons_zero, List.set_cons_succ]
          refine held_skip 7 (some 87) (by rfl) (by kernel_rfl) (by kernel_rfl) (by kernel_rfl) (fun _ _ _ h => h) (by assumption) ?_
          try simp only [Act.put, List.setIfInBounds_toArray, List.set_cons_zero, List.set_cons_succ]
          refine held_skip 8 (some 88) (by rfl) (by kernel_rfl) (by kernel_rfl) (by kernel_rfl) (fun _ _ _ h => h) (by assumption) ?_
          try simp only [Act.put, List.setIfInBounds_toArray, List.set_cons_zero, List.set_cons_succ]
          refine held_skip 9 (some 89) (by rfl) (by kernel_rfl) (by kernel_rfl) (by kernel_rfl) (fun _ _ _ h => h) (by assumption) ?_
          try simp only [Act.put, List.setIfInBounds_toArray, List.set_cons_zero, List.set_cons_succ]
          refine held_skip 10 (some 90) (by rfl) (by kernel_rfl) (by kernel_rfl) (by kernel_rfl) (fun _ _ _ h => h) (by assumption) ?_
          try simp only [Act.put, List.setIfInBounds_toArray, List.set_cons_zero, List.set_cons_succ]
          refine held_skip 11 (some 91) (by rfl) (by kernel_rfl) (by kernel_rfl) (by kernel_rfl) (fun _ _ _ h => h) (by assumption) ?_
          try simp only [Act.put, List.setIfInBounds_toArray, List.set_cons_zero, List.set_cons_succ]
          refine held_skip 12 (some 92) (by rfl) (by kernel_rfl) (by kernel_rfl) (by kernel_rfl) (fun _ _ _ h => h) (by assumption) ?_
          try simp only [Act.put, List.setIfInBounds_toArray, List.set_cons_zero, List.set_cons_succ]
          refine held_skip 13 (some 93) (by rfl) (by kernel_rfl) (by kernel_rfl) (by kernel_rfl) (fun _ _ _ h => h) (by assumption) ?_
          try simp only [Act.put, List.setIfInBounds_toArray, List.set_cons_zero, List.set_cons_succ]
          refine held_skip 14 (some 94) (by rfl) (by kernel_rfl) (by kernel_rfl) (by kernel_rfl) (fun _ _ _ h => h) (by assumption) ?_
          try simp only [Act.put, List.setIfInBounds_toArray, List.set_cons_zero, List.set_cons_succ]
          refine held_skip 15 (some 95) (by rfl) (by kernel_rfl) (by kernel_rfl) (by kernel_rfl) (fun _ _ _ h => h) (by assumption) ?_
          try simp only [Act.put, List.setIfInBounds_toArray, List.set_cons_zero, List.set_cons_succ]
          refine held_skip 16 (some 96) (by rfl) (by kernel_rfl) (by kernel_rfl) (by kernel_rfl) (fun _ _ _ h => h) (by assumption) ?_
          try simp only [Act.put, List.setIfInBounds_toArray, List.set_cons_zero, List.set_cons_succ]
          refine held_skip 17 (some 97) (by rfl) (by kernel_rfl) (by kernel_rfl) (by kernel_rfl) (fun _ _ _ h => h) (by assumption) ?_
          try simp only [Act.put, List.setIfInBounds_toArray, List.set_cons_zero, List.set_cons_succ]
          refine held_skip 18 (some 98) (by rfl) (by kernel_rfl) (by kernel_rfl) (by kernel_rfl) (fun _ _ _ h => h) (by assumption) ?_
          try simp only [Act.put, List.setIfInBounds_toArray, List.set_cons_zero, List.set_cons_succ]
          refine held_skip 19 (some 99) (by rfl) (by kernel_rfl) (by kernel_rfl) (by kernel_rfl) (fun _ _ _ h => h) (by assumption) ?_
          try simp only [Act.put, List.setIfInBounds_toArray, List.set_cons_zero, List.set_cons_succ]
          refine held_skip 20 (some 100) (by rfl) (by kernel_rfl) (by kernel_rfl) (by kernel_rfl) (fun _ _ _ h => h) (by assumption) ?_
          try simp only [Act.put, List.setIfInBounds_toArray, List.set_cons_zero, List.set_cons_succ]
          refine held_skip 21 (some 101) (by rfl) (by kernel_rfl) (by kernel_rfl) (by kernel_rfl) (fun _ _ _ h => h) (by assumption) ?_
          try simp only [Act.put, List.setIfInBounds_toArray, List.set_cons_zero, List.set_cons_succ]
          refine held_run 22 (some 102) (.pick (.tmp 81) (.tmp 101) (.const (Value.bool false))) ?v21_20_43 (by rfl) (by kernel_rfl) (by kernel_rfl) (by kernel_rfl) (fun _ _ _ h => h) (fun o ho w hS => ?y21_20_43) (by assumption) ?r21_20_43
          case y21_20_43 => (try dsimp only at hS); unfold execOp; simp only [ho]; go_simp; try with_reducible rfl
          try simp only [Act.put, List.setIfInBounds_toArray, List.set_cons_zero, List.set_cons_succ]
          refine held_run 23 (some 9) (.assign (.tmp 102)) ?v21_20_44 (by rfl) (by kernel_rfl) (by kernel_rfl) (by kernel_rfl) (fun _ _ _ h => h) (fun o ho w hS => ?y21_20_44) (by assumption) ?r21_20_44
          case y21_20_44 => (try dsimp only at hS); unfold execOp; simp only [ho]; go_simp; try with_reducible rfl
          try simp only [Act.put, List.setIfInBounds_toArray, List.set_cons_zero, List.set_cons_succ]
          refine wpAnyH_done (by kernel_rfl) ?_ _
          go_wp2_with fail
          go_roundw
          case rel => exact ⟨j + 1, by omega, by go_num, by rw [HSt.out]; rfl, HQj.out.trans (Below.mono ((Below.refl wj.heap.size wj).drew) HQj.out.size)⟩
          case measure => simp [intOf]; omega
        | true =>
          cases bv with
          | false =>
            refine wp_region_held_drew (S := fun W => Below wj.heap.size wj W ∧ Blk W w.heap.size 27 #[vn, vl, vr, vb] ∧ W.cell? ⟨w.heap.size + 1, 0, none⟩ = some (.slice (some adr) n1 c1) ∧ W.cell? (adr.add j) = some (.int .i64 y)) (by kernel_rfl) (h0) (fun hHeld => ?_)
            refine held_run 0 (some 80) (.move (.tmp 9)) ?v21_45_46 (by rfl) (by kernel_rfl) (by kernel_rfl) (by kernel_rfl) (fun _ _ _ h => h) (fun o ho w hS => ?y21_45_46) (by assumption) ?r21_45_46
            case y21_45_46 => (try dsimp only at hS); unfold execOp; simp only [ho]; go_simp; try with_reducible rfl
            try simp only [Act.put, List.setIfInBounds_toArray, List.set_cons_zero, List.set_cons_succ]
            refine held_run 1 (some 81) (.move (.tmp 80)) ?v21_45_47 (by rfl) (by kernel_rfl) (by kernel_rfl) (by kernel_rfl) (fun _ _ _ h => h) (fun o ho w hS => ?y21_45_47) (by assumption) ?r21_45_47
            case y21_45_47 => (try dsimp only at hS); unfold execOp; simp only [ho]; go_simp; try with_reducible rfl
            try simp only [Act.put, List.setIfInBounds_toArray, List.set_cons_zero, List.set_cons_succ]
            refine held_load 2 (some 82) 27 (.tmp 2) (by rfl) (by kernel_rfl) (by kernel_rfl) (by kernel_rfl) (w.heap.size) 27 #[vn, vl, vr, vb] (fun _ _ _ h => h) (by rfl) (fun _ h => h.2.1) _ Try.underlying27 rfl (by kernel_rfl) (by assumption) ?_
            try simp only [Act.put, List.setIfInBounds_toArray, List.set_cons_zero, List.set_cons_succ]
            refine held_run 3 (some 83) (.fieldAddr 30 (.tmp 3) 0) ?v21_45_49 (by rfl) (by kernel_rfl) (by kernel_rfl) (by kernel_rfl) (fun _ _ _ h => h) (fun o ho w hS => ?y21_45_49) (by assumption) ?r21_45_49
            case y21_45_49 => (try dsimp only at hS); unfold execOp; simp only [ho]; go_simp; try with_reducible rfl
            try simp only [Act.put, List.setIfInBounds_toArray, List.set_cons_zero, List.set_cons_succ]
            refine held_run 4 (some 84) (.load 25 (.tmp 83)) ?v21_45_50 (by rfl) (by kernel_rfl) (by kernel_rfl) (by kernel_rfl) (fun _ _ _ h => h) (fun o ho w hS => ?y21_45_50) (by assumption) ?r21_45_50
            case y21_45_50 => (try dsimp only at hS); unfold execOp; simp only [ho]; go_simp; try with_reducible rfl
            try simp only [Act.put, List.setIfInBounds_toArray, List.set_cons_zero, List.set_cons_succ]
            refine held_run 5 (some 85) (.move (.tmp 10)) ?v21_45_51 (by rfl) (by kernel_rfl) (by kernel_rfl) (by kernel_rfl) (fun _ _ _ h => h) (fun o ho w hS => ?y21_45_51) (by assumption) ?r21_45_51
            case y21_45_51 => (try dsimp only at hS); unfold execOp; simp only [ho]; go_simp; try with_reducible rfl
            try simp only [Act.put, List.setIfInBounds_toArray, List.set_cons_zero, List.set_cons_succ]
            refine held_run 6 (some 86) (.indexAddr 25 (.tmp 84) (.tmp 85)) ?v21_45_52 (by rfl) (by kernel_rfl) (by kernel_rfl) (by kernel_rfl) (fun _ _ _ h => h) (fun o ho w hS => ?y21_45_52) (by assumption) ?r21_45_52
            case y21_45_52 => (try dsimp only at hS); unfold execOp; simp only [ho]; go_simp; try with_reducible rfl
            try simp only [Act.put, List.setIfInBounds_toArray, List.set_cons_zero, List.set_cons_succ]
            refine held_run 7 (some 87) (.load 3 (.tmp 86)) ?v21_45_53 (by rfl) (by kernel_rfl) (by kernel_rfl) (by kernel_rfl) (fun _ _ _ h => h) (fun o ho w hS => ?y21_45_53) (by assumption) ?r21_45_53
            case y21_45_53 => (try dsimp only at hS); unfold execOp; simp only [ho]; go_simp; try with_reducible rfl
            try simp only [Act.put, List.setIfInBounds_toArray, List.set_cons_zero, List.set_cons_succ]
            refine held_run 8 (some 88) (.move (.tmp 8)) ?v21_45_54 (by rfl) (by kernel_rfl) (by kernel_rfl) (by kernel_rfl) (fun _ _ _ h => h) (fun o ho w hS => ?y21_45_54) (by assumption) ?r21_45_54
            case y21_45_54 => (try dsimp only at hS); unfold execOp; simp only [ho]; go_simp; try with_reducible rfl
            try simp only [Act.put, List.setIfInBounds_toArray, List.set_cons_zero, List.set_cons_succ]
            refine held_call 9 (some 89) 34 [(.tmp 82), (.tmp 87), (.tmp 88)] #[27, 3, 3] #[.agg #[vn, vl, vr, vb], .int .i64 y, .int .i64 run] (by rfl) (by rfl) (by kernel_rfl) Try.func34 (by rfl) (by rfl) ?_
            refine (HPy.out _ HMjd.out).mono ?_
            rintro e w7 ⟨rfl, hb7⟩
            have hbb7 : Below wj.heap.size wj w7 := (Below.refl wj.heap.size wj).drew.trans hb7
            have HFr7 := Lib.hid (HFrj.out.now hbb7)
            have HQ7 := Lib.hid hbb7
            clear h0
            have h0 := HS.out _ hbb7
            refine ⟨_, rfl, h0, ?_⟩
            clear hb7 hbb7
            try simp only [Act.put, List.setIfInBounds_toArray, List.set_cons_zero, List.set_cons_succ]
            refine held_run 10 (some 90) (.unOp .not 4 (.tmp 89)) ?v21_45_56 (by rfl) (by kernel_rfl) (by kernel_rfl) (by kernel_rfl) (fun _ _ _ h => h) (fun o ho w hS => ?y21_45_56) (by assumption) ?r21_45_56
            case y21_45_56 => (try dsimp only at hS); unfold execOp; simp only [ho]; go_simp; try with_reducible rfl
            try simp only [Act.put, List.setIfInBounds_toArray, List.set_cons_zero, List.set_cons_succ]
            refine held_run 11 (some 91) (.move (.tmp 90)) ?v21_45_57 (by rfl) (by kernel_rfl) (by kernel_rfl) (by kernel_rfl) (fun _ _ _ h => h) (fun o ho w hS => ?y21_45_57) (by assumption) ?r21_45_57
            case y21_45_57 => (try dsimp only at hS); unfold execOp; simp only [ho]; go_simp; try with_reducible rfl
            try simp only [Act.put, List.setIfInBounds_toArray, List.set_cons_zero, List.set_cons_succ]
            refine held_skip 12 (some 92) (by rfl) (by kernel_rfl) (by kernel_rfl) (by kernel_rfl) (fun _ _ _ h => h) (by assumption) ?_
            try simp only [Act.put, List.setIfInBounds_toArray, List.set_cons_zero, List.set_cons_succ]
            refine held_skip 13 (some 93) (by rfl) (by kernel_rfl) (by kernel_rfl) (by kernel_rfl) (fun _ _ _ h => h) (by assumption) ?_
            try simp only [Act.put, List.setIfInBounds_toArray, List.set_cons_zero, List.set_cons_succ]
            refine held_skip 14 (some 94) (by rfl) (by kernel_rfl) (by kernel_rfl) (by kernel_rfl) (fun _ _ _ h => h) (by assumption) ?_
            try simp only [Act.put, List.setIfInBounds_toArray, List.set_cons_zero, List.set_cons_succ]
            refine held_skip 15 (some 95) (by rfl) (by kernel_rfl) (by kernel_rfl) (by kernel_rfl) (fun _ _ _ h => h) (by assumption) ?_
            try simp only [Act.put, List.setIfInBounds_toArray, List.set_cons_zero, List.set_cons_succ]
            refine held_skip 16 (some 96) (by rfl) (by kernel_rfl) (by kernel_rfl) (by kernel_rfl) (fun _ _ _ h => h) (by assumption) ?_
            try simp only [Act.put, List.setIfInBounds_toArray, List.set_cons_zero, List.set_cons_succ]
            refine held_skip 17 (some 97) (by rfl) (by kernel_rfl) (by kernel_rfl) (by kernel_rfl) (fun _ _ _ h => h) (by assumption) ?_
            try simp only [Act.put, List.setIfInBounds_toArray, List.set_cons_zero, List.set_cons_succ]
            refine held_skip 18 (some 98) (by rfl) (by kernel_rfl) (by kernel_rfl) (by kernel_rfl) (fun _ _ _ h => h) (by assumption) ?_
            try simp only [Act.put, List.setIfInBounds_toArray, List.set_cons_zero, List.set_cons_succ]
            refine held_skip 19 (some 99) (by rfl) (by kernel_rfl) (by kernel_rfl) (by kernel_rfl) (fun _ _ _ h => h) (by assumption) ?_
            try simp only [Act.put, List.setIfInBounds_toArray, List.set_cons_zero, List.set_cons_succ]
            refine held_skip 20 (some 100) (by rfl) (by kernel_rfl) (by kernel_rfl) (by kernel_rfl) (fun _ _ _ h => h) (by assumption) ?_
            try simp only [Act.put, List.setIfInBounds_toArray, List.set_cons_zero, List.set_cons_succ]
            refine held_run 21 (some 101) (.pick (.tmp 91) (.const (Value.bool true)) (.tmp 100)) ?v21_45_67 (by rfl) (by kernel_rfl) (by kernel_rfl) (by kernel_rfl) (fun _ _ _ h => h) (fun o ho w hS => ?y21_45_67) (by assumption) ?r21_45_67
            case y21_45_67 => (try dsimp only at hS); unfold execOp; simp only [ho]; go_simp; try with_reducible rfl
            try simp only [Act.put, List.setIfInBounds_toArray, List.set_cons_zero, List.set_cons_succ]
            refine held_run 22 (some 102) (.pick (.tmp 81) (.tmp 101) (.const (Value.bool false))) ?v21_45_68 (by rfl) (by kernel_rfl) (by kernel_rfl) (by kernel_rfl) (fun _ _ _ h => h) (fun o ho w hS => ?y21_45_68) (by assumption) ?r21_45_68
            case y21_45_68 => (try dsimp only at hS); unfold execOp; simp only [ho]; go_simp; try with_reducible rfl
            try simp only [Act.put, List.setIfInBounds_toArray, List.set_cons_zero, List.set_cons_succ]
            refine held_run 23 (some 9) (.assign (.tmp 102)) ?v21_45_69 (by rfl) (by kernel_rfl) (by kernel_rfl) (by kernel_rfl) (fun _ _ _ h => h) (fun o ho w hS => ?y21_45_69) (by assumption) ?r21_45_69
            case y21_45_69 => (try dsimp only at hS); unfold execOp; simp only [ho]; go_simp; try with_reducible rfl
            try simp only [Act.put, List.setIfInBounds_toArray, List.set_cons_zero, List.set_cons_succ]
            refine wpAnyH_done (by kernel_rfl) ?_ _
            go_wp2_with fail
            go_roundw
            case rel => exact ⟨j + 1, by omega, by go_num, by rw [HSt.out]; rfl, HQj.out.trans (Below.mono HQ7.out HQj.out.size)⟩
            case measure => simp [intOf]; omega
          | true =>
            refine wp_region_held_drew (S := fun W => Below wj.heap.size wj W ∧ Blk W w.heap.size 27 #[vn, vl, vr, vb] ∧ W.cell? ⟨w.heap.size + 1, 0, none⟩ = some (.slice (some adr) n1 c1) ∧ W.cell? (adr.add j) = some (.int .i64 y)) (by kernel_rfl) (h0) (fun hHeld => ?_)
            refine held_run 0 (some 80) (.move (.tmp 9)) ?v21_70_71 (by rfl) (by kernel_rfl) (by kernel_rfl) (by kernel_rfl) (fun _ _ _ h => h) (fun o ho w hS => ?y21_70_71) (by assumption) ?r21_70_71
            case y21_70_71 => (try dsimp only at hS); unfold execOp; simp only [ho]; go_simp; try with_reducible rfl
            try simp only [Act.put, List.setIfInBounds_toArray, List.set_cons_zero, List.set_cons_succ]
            refine held_run 1 (some 81) (.move (.tmp 80)) ?v21_70_72 (by rfl) (by kernel_rfl) (by kernel_rfl) (by kernel_rfl) (fun _ _ _ h => h) (fun o ho w hS => ?y21_70_72) (by assumption) ?r21_70_72
            case y21_70_72 => (try dsimp only at hS); unfold execOp; simp only [ho]; go_simp; try with_reducible rfl
            try simp only [Act.put, List.setIfInBounds_toArray, List.set_cons_zero, List.set_cons_succ]
            refine held_load 2 (some 82) 27 (.tmp 2) (by rfl) (by kernel_rfl) (by kernel_rfl) (by kernel_rfl) (w.heap.size) 27 #[vn, vl, vr, vb] (fun _ _ _ h => h) (by rfl) (fun _ h => h.2.1) _ Try.underlying27 rfl (by kernel_rfl) (by assumption) ?_
            try simp only [Act.put, List.setIfInBounds_toArray, List.set_cons_zero, List.set_cons_succ]
            refine held_run 3 (some 83) (.fieldAddr 30 (.tmp 3) 0) ?v21_70_74 (by rfl) (by kernel_rfl) (by kernel_rfl) (by kernel_rfl) (fun _ _ _ h => h) (fun o ho w hS => ?y21_70_74) (by assumption) ?r21_70_74
            case y21_70_74 => (try dsimp only at hS); unfold execOp; simp only [ho]; go_simp; try with_reducible rfl
            try simp only [Act.put, List.setIfInBounds_toArray, List.set_cons_zero, List.set_cons_succ]
            refine held_run 4 (some 84) (.load 25 (.tmp 83)) ?v21_70_75 (by rfl) (by kernel_rfl) (by kernel_rfl) (by kernel_rfl) (fun _ _ _ h => h) (fun o ho w hS => ?y21_70_75) (by assumption) ?r21_70_75
            case y21_70_75 => (try dsimp only at hS); unfold execOp; simp only [ho]; go_simp; try with_reducible rfl
            try simp only [Act.put, List.setIfInBounds_toArray, List.set_cons_zero, List.set_cons_succ]
            refine held_run 5 (some 85) (.move (.tmp 10)) ?v21_70_76 (by rfl) (by kernel_rfl) (by kernel_rfl) (by kernel_rfl) (fun _ _ _ h => h) (fun o ho w hS => ?y21_70_76) (by assumption) ?r21_70_76
            case y21_70_76 => (try dsimp only at hS); unfold execOp; simp only [ho]; go_simp; try with_reducible rfl
            try simp only [Act.put, List.setIfInBounds_toArray, List.set_cons_zero, List.set_cons_succ]
            refine held_run 6 (some 86) (.indexAddr 25 (.tmp 84) (.tmp 85)) ?v21_70_77 (by rfl) (by kernel_rfl) (by kernel_rfl) (by kernel_rfl) (fun _ _ _ h => h) (fun o ho w hS => ?y21_70_77) (by assumption) ?r21_70_77
            case y21_70_77 => (try dsimp only at hS); unfold execOp; simp only [ho]; go_simp; try with_reducible rfl
            try simp only [Act.put, List.setIfInBounds_toArray, List.set_cons_zero, List.set_cons_succ]
            refine held_run 7 (some 87) (.load 3 (.tmp 86)) ?v21_70_78 (by rfl) (by kernel_rfl) (by kernel_rfl) (by kernel_rfl) (fun _ _ _ h => h) (fun o ho w hS => ?y21_70_78) (by assumption) ?r21_70_78
            case y21_70_78 => (try dsimp only at hS); unfold execOp; simp only [ho]; go_simp; try with_reducible rfl
            try simp only [Act.put, List.setIfInBounds_toArray, List.set_cons_zero, List.set_cons_succ]
            refine held_run 8 (some 88) (.move (.tmp 8)) ?v21_70_79 (by rfl) (by kernel_rfl) (by kernel_rfl) (by kernel_rfl) (fun _ _ _ h => h) (fun o ho w hS => ?y21_70_79) (by assumption) ?r21_70_79
            case y21_70_79 => (try dsimp only at hS); unfold execOp; simp only [ho]; go_simp; try with_reducible rfl
            try simp only [Act.put, List.setIfInBounds_toArray, List.set_cons_zero, List.set_cons_succ]
            refine held_call 9 (some 89) 34 [(.tmp 82), (.tmp 87), (.tmp 88)] #[27, 3, 3] #[.agg #[vn, vl, vr, vb], .int .i64 y, .int .i64 run] (by rfl) (by rfl) (by kernel_rfl) Try.func34 (by rfl) (by rfl) ?_
            refine (HPy.out _ HMjd.out).mono ?_
            rintro e w7 ⟨rfl, hb7⟩
            have hbb7 : Below wj.heap.size wj w7 := (Below.refl wj.heap.size wj).drew.trans hb7
            have HFr7 := Lib.hid (HFrj.out.now hbb7)
            have HQ7 := Lib.hid hbb7
            clear h0
            have h0 := HS.out _ hbb7
            refine ⟨_, rfl, h0, ?_⟩
            clear hb7 hbb7
            try simp only [Act.put, List.setIfInBounds_toArray, List.set_cons_zero, List.set_cons_succ]
            refine held_run 10 (some 90) (.unOp .not 4 (.tmp 89)) ?v21_70_81 (by rfl) (by kernel_rfl) (by kernel_rfl) (by kernel_rfl) (fun _ _ _ h => h) (fun o ho w hS => ?y21_70_81) (by assumption) ?r21_70_81
            case y21_70_81 => (try dsimp only at hS); unfold execOp; simp only [ho]; go_simp; try with_reducible rfl
            try simp only [Act.put, List.setIfInBounds_toArray, List.set_cons_zero, List.set_cons_succ]
            refine held_run 11 (some 91) (.move (.tmp 90)) ?v21_70_82 (by rfl) (by kernel_rfl) (by kernel_rfl) (by kernel_rfl) (fun _ _ _ h => h) (fun o ho w hS => ?y21_70_82) (by assumption) ?r21_70_82
            case y21_70_82 => (try dsimp only at hS); unfold execOp; simp only [ho]; go_simp; try with_reducible rfl
            try simp only [Act.put, List.setIfInBounds_toArray, List.set_cons_zero, List.set_cons_succ]
            refine held_run 12 (some 92) (.move (.tmp 5)) ?v21_70_83 (by rfl) (by kernel_rfl) (by kernel_rfl) (by kernel_rfl) (fun _ _ _ h => h) (fun o ho w hS => ?y21_70_83) (by assumption) ?r21_70_83
            case y21_70_83 => (try dsimp only at hS); unfold execOp; simp only [ho]; go_simp; try with_reducible rfl
            try simp only [Act.put, List.setIfInBounds_toArray, List.set_cons_zero, List.set_cons_succ]
            refine held_run 13 (some 93) (.move (.tmp 6)) ?v21_70_84 (by rfl) (by kernel_rfl) (by kernel_rfl) (by kernel_rfl) (fun _ _ _ h => h) (fun o ho w hS => ?y21_70_84) (by assumption) ?r21_70_84
            case y21_70_84 => (try dsimp only at hS); unfold execOp; simp only [ho]; go_simp; try with_reducible rfl
            try simp only [Act.put, List.setIfInBounds_toArray, List.set_cons_zero, List.set_cons_succ]
            refine held_run 14 (some 94) (.slice 25 (.tmp 92) none (some (.tmp 93)) none) ?v21_70_85 (by rfl) (by kernel_rfl) (by kernel_rfl) (by kernel_rfl) (fun _ _ _ h => h) (fun o ho w hS => ?y21_70_85) (by assumption) ?r21_70_85
            case y21_70_85 => (try dsimp only at hS); unfold execOp; simp only [ho]; go_simp; try with_reducible rfl
            try simp only [Act.put, List.setIfInBounds_toArray, List.set_cons_zero, List.set_cons_succ]
            refine held_run 15 (some 95) (.fieldAddr 30 (.tmp 3) 0) ?v21_70_86 (by rfl) (by kernel_rfl) (by kernel_rfl) (by kernel_rfl) (fun _ _ _ h => h) (fun o ho w hS => ?y21_70_86) (by assumption) ?r21_70_86
            case y21_70_86 => (try dsimp only at hS); unfold execOp; simp only [ho]; go_simp; try with_reducible rfl
            try simp only [Act.put, List.setIfInBounds_toArray, List.set_cons_zero, List.set_cons_succ]
            refine held_run 16 (some 96) (.load 25 (.tmp 95)) ?v21_70_87 (by rfl) (by kernel_rfl) (by kernel_rfl) (by kernel_rfl) (fun _ _ _ h => h) (fun o ho w hS => ?y21_70_87) (by assumption) ?r21_70_87
            case y21_70_87 => (try dsimp only at hS); unfold execOp; simp only [ho]; go_simp; try with_reducible rfl
            try simp only [Act.put, List.setIfInBounds_toArray, List.set_cons_zero, List.set_cons_succ]
            refine held_run 17 (some 97) (.move (.tmp 10)) ?v21_70_88 (by rfl) (by kernel_rfl) (by kernel_rfl) (by kernel_rfl) (fun _ _ _ h => h) (fun o ho w hS => ?y21_70_88) (by assumption) ?r21_70_88
            case y21_70_88 => (try dsimp only at hS); unfold execOp; simp only [ho]; go_simp; try with_reducible rfl
            try simp only [Act.put, List.setIfInBounds_toArray, List.set_cons_zero, List.set_cons_succ]
            refine held_run 18 (some 98) (.indexAddr 25 (.tmp 96) (.tmp 97)) ?v21_70_89 (by rfl) (by kernel_rfl) (by kernel_rfl) (by kernel_rfl) (fun _ _ _ h => h) (fun o ho w hS => ?y21_70_89) (by assumption) ?r21_70_89
            case y21_70_89 => (try dsimp only at hS); unfold execOp; simp only [ho]; go_simp; try with_reducible rfl
            try simp only [Act.put, List.setIfInBounds_toArray, List.set_cons_zero, List.set_cons_succ]
            refine held_run 19 (some 99) (.load 3 (.tmp 98)) ?v21_70_90 (by rfl) (by kernel_rfl) (by kernel_rfl) (by kernel_rfl) (fun _ _ _ h => h) (fun o ho w hS => ?y21_70_90) (by assumption) ?r21_70_90
            case y21_70_90 => (try dsimp only at hS); unfold execOp; simp only [ho]; go_simp; try with_reducible rfl
            try simp only [Act.put, List.setIfInBounds_toArray, List.set_cons_zero, List.set_cons_succ]
            refine held_call 20 (some 100) 33 [(.tmp 94), (.tmp 99)] #[25, 3] #[.slice (some ad) i cO, .int .i64 y] (by rfl) (by rfl) (by kernel_rfl) Try.func33 (by rfl) (by rfl) ?_
            refine (rhas_any (some ad) i cO _ D y cv _ HFr7.out him HCv.out).mono ?_
            rintro e w' ⟨rfl, rfl⟩
            refine ⟨_, rfl, h0, ?_⟩
            try simp only [Act.put, List.setIfInBounds_toArray, List.set_cons_zero, List.set_cons_succ]
            refine held_run 21 (some 101) (.pick (.tmp 91) (.const (Value.bool true)) (.tmp 100)) ?v21_70_92 (by rfl) (by kernel_rfl) (by kernel_rfl) (by kernel_rfl) (fun _ _ _ h => h) (fun o ho w hS => ?y21_70_92) (by assumption) ?r21_70_92
            case y21_70_92 => (try dsimp only at hS); unfold execOp; simp only [ho]; go_simp; try with_reducible rfl
            try simp only [Act.put, List.setIfInBounds_toArray, List.set_cons_zero, List.set_cons_succ]
            refine held_run 22 (some 102) (.pick (.tmp 81) (.tmp 101) (.const (Value.bool false))) ?v21_70_93 (by rfl) (by kernel_rfl) (by kernel_rfl) (by kernel_rfl) (fun _ _ _ h => h) (fun o ho w hS => ?y21_70_93) (by assumption) ?r21_70_93
            case y21_70_93 => (try dsimp only at hS); unfold execOp; simp only [ho]; go_simp; try with_reducible rfl
            try simp only [Act.put, List.setIfInBounds_toArray, List.set_cons_zero, List.set_cons_succ]
            refine held_run 23 (some 9) (.assign (.tmp 102)) ?v21_70_94 (by rfl) (by kernel_rfl) (by kernel_rfl) (by kernel_rfl) (fun _ _ _ h => h) (fun o ho w hS => ?y21_70_94) (by assumption) ?r21_70_94
            case y21_70_94 => (try dsimp only at hS); unfold execOp; simp only [ho]; go_simp; try with_reducible rfl
            try simp only [Act.put, List.setIfInBounds_toArray, List.set_cons_zero, List.set_cons_succ]
            refine wpAnyH_done (by kernel_rfl) ?_ _
            go_wp2_with fail
            go_roundw
            case rel => exact ⟨j + 1, by omega, by go_num, by rw [HSt.out]; simp, HQj.out.trans (Below.mono HQ7.out HQj.out.size)⟩
            case measure => simp [intOf]; omega


theorem own_sweepOrder : ownKnob Try.prog.godebug = none := by kernel_rfl
theorem laidOut_sweepOrder : laidOutB Try.prog = true := by kernel_rfl
set_option maxRecDepth 100000 in
theorem sweepOrder_lifted (os : Os) (started : os.Started) (H : Type) (enc : TypeId × Value → H) :
    ReturnsInHanded {} Try.checked os 9 .any (Rows.sweepOrderSpec.pre6 enc Try.prog Try.f9 Rows.sweepOrderRow.domain false) (Rows.sweepOrderSpec.post enc Try.prog Try.f9 false true false false) := by
  refine returnsInHanded_of_change (C := Try.checked) own_sweepOrder started (by kernel_rfl) Try.func9
    (ChangeSpec.witness6 (enc := enc) (C := Try.checked) false ⟨#[], #[.agg #[.slice none 0 0, .slice none 0 0, .slice none 0 0, .slice none 0 0], .agg #[.slice none 0 0, .slice none 0 0, .int .i64 0]], []⟩ 8 (by kernel_rfl) (by kernel_rfl) (by kernel_rfl) (by kernel_rfl)) ?_
  intro W base args ds gs before hval0 hW hcnd _
  have hval : ∀ (j : Nat) t v, Try.f9.params[j]? = some t → args[j]? = some v → Value.okWide Try.prog W .any base t v := hval0
  have hW' := hW
  obtain ⟨p, q, hA0, hV, rfl, hfz, hnd⟩ := hW
  have hA : DataW.TrodAll enc Try.prog W 0 (fun _ => true) true Try.f9.params.toList args.toList ds p := hA0
  rw [Try.params9] at hA hval
  obtain ⟨v0, vs0, d0, ds0, p0, q0, hargs, rfl, rfl, h0, r0⟩ := trodAll_cons hA
  obtain ⟨v1, vs1, d1, ds1, p1, q1, rfl, rfl, rfl, h1, r1⟩ := trodAll_cons r0
  obtain ⟨rfl, rfl, rfl⟩ := trodAll_nil r1
  obtain rfl : args = #[v0, v1] := by cases args; simp_all
  obtain ⟨rfl, rfl⟩ := trodVars_none hV
  obtain ⟨vn, vl, vr, vb, nd, lf, rs, bs, rfl, hnd, hlf, hrs, hbs⟩ := open_map (hval 0 27 v0 rfl rfl) h0
  obtain ⟨s1, s2, bg, runs, sw, rfl, hru, hsw⟩ := open_sweep (hval 1 30 v1 rfl rfl) h1
  refine (sweepOrder_any W vn vl vr vb nd lf rs bs hnd hlf hrs hbs s1 s2 bg runs sw hru hsw).mono fun e W' ⟨he, hb⟩ => ?_
  subst he
  exact ⟨_, rfl, law_post laidOut_sweepOrder (by kernel_rfl) rfl rfl Try.underlying4 hW' rfl hb⟩

theorem sweepOrder_holds : Rows.SweepOrderSaid :=
  OpenClaim.holds_of_wide 9 Try.f9 rfl rfl rfl rfl rfl rfl rfl ⟨rfl, rfl, rfl, rfl, rfl⟩ rfl rfl rfl rfl rfl (by kernel_rfl) Try.func9 (by kernel_rfl)
    (of_decide_eq_true (by kernel_rfl)) (by unfold Func.isWrapper; rw [if_neg (by decide +kernel)]; exact ⟨rfl, rfl⟩)
    (fun os started H enc _ => sweepOrder_lifted os started H enc)
#print axioms sweepOrder_holds
end Go.Proofs.Yticoeibccdplaaa
