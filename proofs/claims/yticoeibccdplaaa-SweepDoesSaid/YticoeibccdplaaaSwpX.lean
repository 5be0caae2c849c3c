/-
  alive of the law of chapter 56, walked.
-/
import Derived.Test.YticoeibccdplaaaSwpY
namespace Go.Proofs.Yticoeibccdplaaa
open Go.RowKit

theorem blk_new2 (w : World) (o : Obj) (t : TypeId) (cs : Array Value) : Blk ((w.alloc o).alloc (.cells cs t)) (w.heap.size + 1) t cs := by
  have h := Blk.new (w.alloc o) t cs
  rwa [show (w.alloc o).heap.size = w.heap.size + 1 by simp] at h
theorem strV_nil {α : Type} (f : α → List Value) (s : Nat) (w : World) (B : Nat) : StrV f s w B (.slice none 0 0) [] := by
  unfold StrV
  exact ⟨none, 0, rfl, by simp, by simp [maxLen], Reads.empty⟩
set_option maxRecDepth 100000 in
set_option maxHeartbeats 8000000 in
theorem alive_any (w : World) : Calls Try.prog 11 #[] w fun e w' => e = .returned (.bool true) ∧ Below w.heap.size w w' := by
  have HDo1 : Hid (∀ (vn vl vr vb v1 : Value) (W : World), StrV Rn.cells 7 W W.heap.size vr sRn → RowV W W.heap.size vb [1] → RowV W W.heap.size v1 [11, 12] → ∀ vo, RowV W W.heap.size vo [12] → Calls Try.prog 21 #[.agg #[vn, vl, vr, vb], .agg #[v1, .slice none 0 0, .int .i64 100], vo, .agg #[.int .i64 11, .int .i64 4, .int .i64 120, .int .i64 3]] W fun e w' => ∃ x y, e = .returned (.tuple #[.agg #[x, y, .int .i64 100], .int .i64 0]) ∧ RowV w' w'.heap.size x [11, 12] ∧ StrV Sw.cells 4 w' w'.heap.size y [⟨11, 4, 120, 3⟩] ∧ Below W.heap.size W w') := fun vn vl vr vb v1 W a1 a2 a3 vo a4 => by
    refine (do_any vn vl vr vb v1 _ vo 100 sRn [1] [11, 12] [12] [] ⟨11, 4, 120, 3⟩ W a1 a2 a3 (strV_nil _ _ _ _) a4 (by decide) (by decide)).mono ?_
    rintro e w' ⟨hb, ⟨h, _⟩ | ⟨_, h, _⟩ | ⟨_, _, x, y, rfl, h1, h2⟩⟩
    · exact absurd h (by decide)
    · exact absurd (show rightG (hasR sRn) (befP sRn) (outP sRn [1]) [11, 12] 100 ([] ++ [⟨11, 4, 120, 3⟩]) = 0 by decide +kernel) h
    · exact ⟨x, y, rfl, h1, h2, hb⟩
  have HDo2 : Hid (∀ (vn vl vr vb v1 : Value) (W : World), StrV Rn.cells 7 W W.heap.size vr sRn → RowV W W.heap.size vb [1] → RowV W W.heap.size v1 [11, 12] → ∀ vo, RowV W W.heap.size vo [11] → Calls Try.prog 21 #[.agg #[vn, vl, vr, vb], .agg #[v1, .slice none 0 0, .int .i64 100], vo, .agg #[.int .i64 11, .int .i64 4, .int .i64 120, .int .i64 3]] W fun e w' => e = .returned (.tuple #[.agg #[.slice none 0 0, .slice none 0 0, .int .i64 0], .int .i64 13]) ∧ Below W.heap.size W w') := fun vn vl vr vb v1 W a1 a2 a3 vo a4 => by
    refine (do_any vn vl vr vb v1 _ vo 100 sRn [1] [11, 12] [11] [] ⟨11, 4, 120, 3⟩ W a1 a2 a3 (strV_nil _ _ _ _) a4 (by decide) (by decide)).mono ?_
    rintro e w' ⟨hb, ⟨_, rfl⟩ | ⟨h, _⟩ | ⟨h, _⟩⟩
    · exact ⟨rfl, hb⟩
    · exact absurd h (by decide)
    · exact absurd h (by decide)
  have HDo3 : Hid (∀ (vn vl vr vb v1 : Value) (W : World), StrV Rn.cells 7 W W.heap.size vr sRn → RowV W W.heap.size vb [1] → RowV W W.heap.size v1 [11, 12] → Calls Try.prog 21 #[.agg #[vn, vl, vr, vb], .agg #[v1, .slice none 0 0, .int .i64 100], .slice none 0 0, .agg #[.int .i64 12, .int .i64 4, .int .i64 120, .int .i64 0]] W fun e w' => e = .returned (.tuple #[.agg #[.slice none 0 0, .slice none 0 0, .int .i64 0], .int .i64 11]) ∧ Below W.heap.size W w') := fun vn vl vr vb v1 W a1 a2 a3 => by
    have hz : rightG (hasR sRn) (befP sRn) (outP sRn [1]) [11, 12] 100 ([] ++ [⟨12, 4, 120, 0⟩]) = 11 := by decide +kernel
    refine (do_any vn vl vr vb v1 _ _ 100 sRn [1] [11, 12] [] [] ⟨12, 4, 120, 0⟩ W a1 a2 a3 (strV_nil _ _ _ _) (rowV_nil _ _) (by decide) (by decide)).mono ?_
    rintro e w' ⟨hb, ⟨h, _⟩ | ⟨_, _, rfl⟩ | ⟨_, h, _⟩⟩
    · exact absurd h (by decide)
    · exact ⟨by rw [hz], hb⟩
    · rw [hz] at h
      exact absurd h (by decide)
  have HPu : Hid (∀ (vn vl vr vb v1 : Value) (W : World), StrV Rn.cells 7 W W.heap.size vr sRn → RowV W W.heap.size vb [1] → RowV W W.heap.size v1 [11, 12] → ∀ vp, RowV W W.heap.size vp [5, 2] → Calls Try.prog 28 #[.agg #[vn, vl, vr, vb], .agg #[v1, .slice none 0 0, .int .i64 100], vp, .int .i64 11] W fun e w' => ∃ v, e = .returned (.tuple #[v, .int .i64 0, .int .i64 0]) ∧ RowV w' w'.heap.size v [0, 7] ∧ Below W.heap.size W w') := fun vn vl vr vb v1 W a1 a2 a3 vp a4 => by
    refine (Push_any vn vl vr vb v1 _ vp 100 sRn [1] [11, 12] [5, 2] 11 W a1 a2 a3 a4 (by decide)).mono ?_
    rintro e w' ⟨hb, ⟨h, _⟩ | ⟨_, h, _⟩ | ⟨_, j, v, _, _, hj, rfl, ho⟩⟩
    · exact absurd h (by decide)
    · exact absurd h (by decide)
    · have hj0 : j = 0 := by
        have h : indI [11, 12] 11 = 0 := by decide
        omega
      subst hj0
      have e1 : pushN (befP sRn) (outP sRn [1]) [11, 12] [5, 2] 0 = ([0, 7], 0) := by decide +kernel
      rw [e1] at ho ⊢
      exact ⟨v, rfl, ho.rowV, hb⟩
  have HAl : Hid (∀ (vn vl vr vb v1 : Value) (W : World), StrV Rn.cells 7 W W.heap.size vr sRn → RowV W W.heap.size vb [1] → RowV W W.heap.size v1 [11, 12] → ∀ vp, RowV W W.heap.size vp [5, 2] → Calls Try.prog 30 #[.agg #[vn, vl, vr, vb], .agg #[v1, .slice none 0 0, .int .i64 100], vp] W fun e w' => e = .returned (.tuple #[.int .i64 7, .int .i64 0, .int .i64 0]) ∧ Below W.heap.size W w') := fun vn vl vr vb v1 W a1 a2 a3 vp a4 => by
    refine (all_any vn vl vr vb v1 _ vp 100 sRn [1] [11, 12] [5, 2] [] W a1 a2 a3 a4 (by decide)).mono ?_
    rintro e w' ⟨hb, ⟨h, _⟩ | ⟨_, rfl⟩⟩
    · exact absurd h (by decide)
    · have e1 : allGo (befP sRn) (outP sRn [1]) [11, 12] (ordN (befP sRn) [11, 12]) [5, 2] 0 = ([0, 0], 7) := by decide +kernel
      rw [e1]
      exact ⟨rfl, hb⟩
  have HR1 : Hid (∀ (vn vl vr vb v1 : Value) (W : World), StrV Rn.cells 7 W W.heap.size vr sRn → RowV W W.heap.size vb [1] → RowV W W.heap.size v1 [11, 12] → Calls Try.prog 13 #[.agg #[vn, vl, vr, vb], .agg #[v1, .slice none 0 0, .int .i64 100]] W fun e w' => e = .returned (.int .i64 0) ∧ Below W.heap.size W w') := fun vn vl vr vb v1 W a1 a2 a3 => by
    have h := right_any vn vl vr vb v1 _ 100 sRn [1] [11, 12] [] W a1 a2 a3 (strV_nil _ _ _ _)
    rwa [show rightP sRn [1] [11, 12] 100 [] = 0 by decide +kernel] at h
  have HR2 : Hid (∀ (vn vl vr vb v1 : Value) (W : World), StrV Rn.cells 7 W W.heap.size vr sRn → RowV W W.heap.size vb [1] → RowV W W.heap.size v1 [11] → Calls Try.prog 13 #[.agg #[vn, vl, vr, vb], .agg #[v1, .slice none 0 0, .int .i64 0]] W fun e w' => e = .returned (.int .i64 16) ∧ Below W.heap.size W w') := fun vn vl vr vb v1 W a1 a2 a3 => by
    have h := right_any vn vl vr vb v1 _ 0 sRn [1] [11] [] W a1 a2 a3 (strV_nil _ _ _ _)
    rwa [show rightP sRn [1] [11] 0 [] = 16 by decide +kernel] at h
  have HD1 : Hid (∀ (v1 : Value) (W : World), RowV W W.heap.size v1 [11, 12] → Calls Try.prog 24 #[.agg #[v1, .slice none 0 0, .int .i64 100]] W fun e w' => e = .returned (.bool false) ∧ Below W.heap.size W w') := fun v1 W a => done_any v1 _ 100 [11, 12] [] W a (strV_nil _ _ _ _) (by decide)
  have HD2 : Hid (∀ (W : World), Calls Try.prog 24 #[.agg #[.slice none 0 0, .slice none 0 0, .int .i64 0]] W fun e w' => e = .returned (.bool true) ∧ Below W.heap.size W w') := fun W => done_any _ _ 0 [] [] W (rowV_nil _ _) (strV_nil _ _ _ _) (by decide)
  have HFd : Hid (∀ (x y : Value) (W : World), StrV Sw.cells 4 W W.heap.size y [⟨11, 4, 120, 3⟩] → Calls Try.prog 26 #[.agg #[x, y, .int .i64 100]] W fun e w' => e = .returned (.int .i64 3) ∧ Below W.heap.size W w') := fun x y W a => found_any x y 100 [⟨11, 4, 120, 3⟩] W a (by decide) (by decide)
  have HOr : Hid (∀ (vn vl vr vb v1 : Value) (W : World), StrV Rn.cells 7 W W.heap.size vr sRn → RowV W W.heap.size vb [1] → RowV W W.heap.size v1 [11, 12] → Calls Try.prog 17 #[.agg #[vn, vl, vr, vb], .agg #[v1, .slice none 0 0, .int .i64 100]] W fun e w' => ∃ v, e = .returned v ∧ RowV w' w'.heap.size v [11, 12] ∧ Below W.heap.size W w') := fun vn vl vr vb v1 W a1 a2 a3 => by
    refine (order_any vn vl vr vb v1 _ 100 sRn [11, 12] [] W a1 a3 (by decide)).mono ?_
    rintro e w' ⟨v, rfl, ho, hb⟩
    rw [show ordN (befP sRn) [11, 12] = [11, 12] by decide +kernel] at ho
    exact ⟨v, rfl, ho.rowV, hb⟩
  have HN1 : Hid (∀ (vn vl vr vb v1 : Value) (W : World), StrV Rn.cells 7 W W.heap.size vr sRn → RowV W W.heap.size vb [1] → RowV W W.heap.size v1 [11, 12] → Calls Try.prog 19 #[.agg #[vn, vl, vr, vb], .agg #[v1, .slice none 0 0, .int .i64 100]] W fun e w' => ∃ v, e = .returned v ∧ RowV w' w'.heap.size v [11] ∧ Below W.heap.size W w') := fun vn vl vr vb v1 W a1 a2 a3 => by
    refine (next_any vn vl vr vb v1 _ 100 sRn [11, 12] [] W a1 a3 (strV_nil _ _ _ _) (by decide) (by decide)).mono ?_
    rintro e w' ⟨v, rfl, ho, hb⟩
    rw [show readyL (befP sRn) [11, 12] (([] : List Sw).map Sw.run) = [11] by decide +kernel] at ho
    exact ⟨v, rfl, ho.rowV, hb⟩
  have HN2 : Hid (∀ (vn vl vr vb v1 : Value) (W : World), StrV Rn.cells 7 W W.heap.size vr sRn → RowV W W.heap.size vb [1] → RowV W W.heap.size v1 [11, 12] → ∀ y, StrV Sw.cells 4 W W.heap.size y [⟨11, 4, 120, 3⟩] → Calls Try.prog 19 #[.agg #[vn, vl, vr, vb], .agg #[v1, y, .int .i64 100]] W fun e w' => ∃ v, e = .returned v ∧ RowV w' w'.heap.size v [12] ∧ Below W.heap.size W w') := fun vn vl vr vb v1 W a1 a2 a3 y a4 => by
    refine (next_any vn vl vr vb v1 y 100 sRn [11, 12] [⟨11, 4, 120, 3⟩] W a1 a3 a4 (by decide) (by decide)).mono ?_
    rintro e w' ⟨v, rfl, ho, hb⟩
    rw [show readyL (befP sRn) [11, 12] (([⟨11, 4, 120, 3⟩] : List Sw).map Sw.run) = [12] by decide +kernel] at ho
    exact ⟨v, rfl, ho.rowV, hb⟩
  have HSm : Hid (∀ (v v' : Value) (l : List Int) (W : World), RowV W W.heap.size v l → RowV W W.heap.size v' l → Calls Try.prog 16 #[v, v'] W fun e w' => e = .returned (.bool true) ∧ Below W.heap.size W w') := fun v v' l W a1 a2 => same_ints v v' l l true W a1 a2 (by simp)
  go_enter Try.func11, Try.ntmps11
  go_wp2_with fail
  with_reducible refine (small_any _).mono ?_
  rintro e w1 ⟨vn, vl, vr, vb, rfl, hn, hl, hm, hv, hb1⟩
  have ovn := hn.one
  have ovl := hl.one
  have ovr := hm.one
  have ovb := hv.one
  have HW1 := Lib.hid hb1
  have HM1 := Lib.hid hm
  have HV1 := Lib.hid hv
  clear hn hl hm hv hb1
  go_wp2_with
    (first
     | (refine wpList_store_blk rfl 27 (.tmp 1) (.tmp 16) rfl w1.heap.size #[vn, vl, vr, vb] rfl rfl _ _ (Blk.new w1 27 #[.slice none 0 0, .slice none 0 0, .slice none 0 0, .slice none 0 0]) (by kernel_rfl) rfl (by simp [ovn, ovl, ovr, ovb]) ?_
        intro w2 hx2 hon2
        have hb2 := hon2.below (below_new w1 (.cells #[.slice none 0 0, .slice none 0 0, .slice none 0 0, .slice none 0 0] 27)) (Nat.le_refl _)
        have HX2 := Lib.hid hx2
        have HW2 := Lib.hid (HW1.out.trans (hb2.mono HW1.out.size))
        have HM2 := Lib.hid (HM1.out.now hb2)
        have HV2 := Lib.hid (HV1.out.now hb2)
        clear hx2 hon2 hb2)
     | (refine wpList_store_blk rfl 30 (.tmp 2) (.tmp 18) rfl (w2.heap.size + 1) #[.slice (some ⟨w2.heap.size, 0, none⟩) 2 2, .slice none 0 0, .int .i64 100] rfl rfl _ _ (blk_new2 w2 (.cells #[.int .i64 11, .int .i64 12] 3) 30 #[.slice none 0 0, .slice none 0 0, .int .i64 0]) (by kernel_rfl) rfl (by simp [Value.oneCell']) ?_
        intro w3 hx3 hon3
        have hb3 := hon3.below (below_alloc' (below_new w2 (.cells #[.int .i64 11, .int .i64 12] 3)) (by simp) (.cells #[.slice none 0 0, .slice none 0 0, .int .i64 0] 30)) (Nat.le_succ _)
        have HY3 := Lib.hid hx3
        have HX3 := Lib.hid (HX2.out.below hb3 HX2.out.lt)
        have HW3 := Lib.hid (HW2.out.trans (hb3.mono HW2.out.size))
        have HM3 := Lib.hid (HM2.out.now hb3)
        have HV3 := Lib.hid (HV2.out.now hb3)
        have HS3 : Hid (RowV w3 w3.heap.size (.slice (some ⟨w2.heap.size, 0, none⟩) 2 2) [11, 12]) := hide (rowV_only hon3 (by omega) ((lit_row w2 #[.int .i64 11, .int .i64 12] 3 [11, 12] 2 _ rfl rfl (by decide) rfl).alloc' _))
        clear hx3 hon3 hb3)
     | (refine wpList_store_blk rfl 39 (.tmp 3) (.tmp 19) rfl w3.heap.size #[.int .i64 11, .int .i64 4, .int .i64 120, .int .i64 3] rfl rfl _ _ (Blk.new w3 39 #[.int .i64 0, .int .i64 0, .int .i64 0, .int .i64 0]) (by kernel_rfl) rfl (by simp [Value.oneCell']) ?_
        intro wb hx4 hon4
        have hb4 := hon4.below (below_new w3 (.cells #[.int .i64 0, .int .i64 0, .int .i64 0, .int .i64 0] 39)) (Nat.le_refl _)
        have HX0b := Lib.hid (HX3.out.below hb4 HX3.out.lt)
        have HX1b := Lib.hid (HY3.out.below hb4 HY3.out.lt)
        have HX2b := Lib.hid hx4
        have HWb := Lib.hid (HW3.out.trans (hb4.mono HW3.out.size))
        have HMb := Lib.hid (HM3.out.now hb4)
        have HVb := Lib.hid (HV3.out.now hb4)
        have HSb := Lib.hid (HS3.out.now hb4)
        have HBb : Hid (Below wb.heap.size wb wb) := hide (Below.refl _ _)
        have hszb : wb.heap.size ≤ wb.heap.size := Nat.le_refl _
        have hxx0 : w1.heap.size < wb.heap.size := HX0b.out.lt
        have hxx1 : w2.heap.size + 1 < wb.heap.size := HX1b.out.lt
        have hxx2 : w3.heap.size < wb.heap.size := HX2b.out.lt
        clear hx4 hon4 hb4)
     | (refine wpList_load_g 27 (.tmp 1) rfl rfl w1.heap.size rfl _ _ (HX0b.out) _ Try.underlying27 rfl (by kernel_rfl) ?_)
     | (refine wpList_load_g 30 (.tmp 2) rfl rfl (w2.heap.size + 1) rfl _ _ (HX1b.out) _ Try.underlying30 rfl (by kernel_rfl) ?_)
     | (refine wpList_load_g 39 (.tmp 3) rfl rfl w3.heap.size rfl _ _ (HX2b.out.alloc _) _ Try.underlying39 rfl (by kernel_rfl) ?_))
  clear HX2 HX3 HY3 HW1 HW2 HW3 HM1 HM2 HM3 HV1 HV2 HV3 HS3
  with_reducible refine (HDo1.out _ _ _ _ _ _ (HMb.out.alloc' _) (HVb.out.alloc' _) (HSb.out.alloc' _) _ (lit_row wb #[.int .i64 12] 3 [12] 1 _ rfl rfl (by decide) rfl)).mono ?_
  rintro e w5 ⟨ax, ay, rfl, hax, hay, hb5⟩
  have hbb5 : Below wb.heap.size wb w5 := (below_new wb _).trans (hb5.mono (by simp))
  have HB5 := Lib.hid (HBb.out.trans (hbb5.mono hszb))
  have HW5 := Lib.hid (HWb.out.trans (hbb5.mono HWb.out.size))
  have hsz5 : wb.heap.size ≤ w5.heap.size := Nat.le_trans hszb hbb5.size
  have HX05 := Lib.hid (HX0b.out.below hbb5 (Nat.lt_of_lt_of_le hxx0 hszb))
  have HX15 := Lib.hid (HX1b.out.below hbb5 (Nat.lt_of_lt_of_le hxx1 hszb))
  have HX25 := Lib.hid (HX2b.out.below hbb5 (Nat.lt_of_lt_of_le hxx2 hszb))
  have HM5 := Lib.hid (HMb.out.now hbb5)
  have HV5 := Lib.hid (HVb.out.now hbb5)
  have HS5 := Lib.hid (HSb.out.now hbb5)
  clear hb5 hbb5
  have oax := hax.one
  have oay := hay.one
  have HAx5 := Lib.hid hax
  have HAy5 := Lib.hid hay
  clear hax hay
  go_wp2_with
    (first
     | (refine wpList_store_blk rfl 30 (.tmp 4) (.tmp 26) rfl w5.heap.size #[ax, ay, .int .i64 100] rfl rfl _ _ (Blk.new w5 30 #[.slice none 0 0, .slice none 0 0, .int .i64 0]) (by kernel_rfl) rfl (by simp [oax, oay, show ∀ (x : Int), (Value.int .i64 x).oneCell' = true from fun _ => rfl]) ?_
        intro w6 hx6 hon6
        have hb6 := hon6.below (below_new w5 (.cells #[.slice none 0 0, .slice none 0 0, .int .i64 0] 30)) (Nat.le_refl _)
        have HB6 := Lib.hid (HB5.out.trans (hb6.mono hsz5))
        have HW6 := Lib.hid (HW5.out.trans (hb6.mono HW5.out.size))
        have hsz6 : wb.heap.size ≤ w6.heap.size := Nat.le_trans hsz5 hb6.size
        have HX06 := Lib.hid (HX05.out.below hb6 (Nat.lt_of_lt_of_le hxx0 hsz5))
        have HX16 := Lib.hid (HX15.out.below hb6 (Nat.lt_of_lt_of_le hxx1 hsz5))
        have HX26 := Lib.hid (HX25.out.below hb6 (Nat.lt_of_lt_of_le hxx2 hsz5))
        have HM6 := Lib.hid (HM5.out.now hb6)
        have HV6 := Lib.hid (HV5.out.now hb6)
        have HS6 := Lib.hid (HS5.out.now hb6)
        have HAx6 := Lib.hid (HAx5.out.now hb6)
        have HAy6 := Lib.hid (HAy5.out.now hb6)
        have HLa6 := Lib.hid hx6
        clear hx6 hon6 hb6)
     | (refine wpList_load_g 27 (.tmp 1) rfl rfl w1.heap.size rfl _ _ (HX06.out) _ Try.underlying27 rfl (by kernel_rfl) ?_)
     | (refine wpList_load_g 30 (.tmp 2) rfl rfl (w2.heap.size + 1) rfl _ _ (HX16.out) _ Try.underlying30 rfl (by kernel_rfl) ?_)
     | (refine wpList_load_g 39 (.tmp 3) rfl rfl w3.heap.size rfl _ _ (HX26.out.alloc _) _ Try.underlying39 rfl (by kernel_rfl) ?_))
  with_reducible refine (HDo2.out _ _ _ _ _ _ (HM6.out.alloc' _) (HV6.out.alloc' _) (HS6.out.alloc' _) _ (lit_row w6 #[.int .i64 11] 3 [11] 1 _ rfl rfl (by decide) rfl)).mono ?_
  rintro e w7 ⟨rfl, hb7⟩
  have hbb7 : Below w6.heap.size w6 w7 := (below_new w6 _).trans (hb7.mono (by simp))
  have HB7 := Lib.hid (HB6.out.trans (hbb7.mono hsz6))
  have HW7 := Lib.hid (HW6.out.trans (hbb7.mono HW6.out.size))
  have hsz7 : wb.heap.size ≤ w7.heap.size := Nat.le_trans hsz6 hbb7.size
  have HX07 := Lib.hid (HX06.out.below hbb7 (Nat.lt_of_lt_of_le hxx0 hsz6))
  have HX17 := Lib.hid (HX16.out.below hbb7 (Nat.lt_of_lt_of_le hxx1 hsz6))
  have HX27 := Lib.hid (HX26.out.below hbb7 (Nat.lt_of_lt_of_le hxx2 hsz6))
  have HLa7 := Lib.hid (HLa6.out.below hbb7 HLa6.out.lt)
  have HM7 := Lib.hid (HM6.out.now hbb7)
  have HV7 := Lib.hid (HV6.out.now hbb7)
  have HS7 := Lib.hid (HS6.out.now hbb7)
  have HAx7 := Lib.hid (HAx6.out.now hbb7)
  have HAy7 := Lib.hid (HAy6.out.now hbb7)
  clear hb7 hbb7
  go_wp2_with
    (first
     | (refine wpList_store_blk rfl 30 (.tmp 6) (.tmp 34) rfl w7.heap.size #[.slice none 0 0, .slice none 0 0, .int .i64 0] rfl rfl _ _ (Blk.new w7 30 #[.slice none 0 0, .slice none 0 0, .int .i64 0]) (by kernel_rfl) rfl (by simp [Value.oneCell']) ?_
        intro w8 hx8 hon8
        have hb8 := hon8.below (below_new w7 (.cells #[.slice none 0 0, .slice none 0 0, .int .i64 0] 30)) (Nat.le_refl _)
        have HB8 := Lib.hid (HB7.out.trans (hb8.mono hsz7))
        have HW8 := Lib.hid (HW7.out.trans (hb8.mono HW7.out.size))
        have hsz8 : wb.heap.size ≤ w8.heap.size := Nat.le_trans hsz7 hb8.size
        have HX08 := Lib.hid (HX07.out.below hb8 (Nat.lt_of_lt_of_le hxx0 hsz7))
        have HX18 := Lib.hid (HX17.out.below hb8 (Nat.lt_of_lt_of_le hxx1 hsz7))
        have HX28 := Lib.hid (HX27.out.below hb8 (Nat.lt_of_lt_of_le hxx2 hsz7))
        have HLa8 := Lib.hid (HLa7.out.below hb8 HLa7.out.lt)
        have HM8 := Lib.hid (HM7.out.now hb8)
        have HV8 := Lib.hid (HV7.out.now hb8)
        have HS8 := Lib.hid (HS7.out.now hb8)
        have HAx8 := Lib.hid (HAx7.out.now hb8)
        have HAy8 := Lib.hid (HAy7.out.now hb8)
        clear hx8 hon8 hb8)
     | (refine wpList_load_g 27 (.tmp 1) rfl rfl w1.heap.size rfl _ _ (HX08.out) _ Try.underlying27 rfl (by kernel_rfl) ?_)
     | (refine wpList_load_g 30 (.tmp 2) rfl rfl (w2.heap.size + 1) rfl _ _ (HX18.out) _ Try.underlying30 rfl (by kernel_rfl) ?_))
  with_reducible refine (HDo3.out _ _ _ _ _ _ (HM8.out) (HV8.out) (HS8.out)).mono ?_
  rintro e w9 ⟨rfl, hb9⟩
  have HB9 := Lib.hid (HB8.out.trans (hb9.mono hsz8))
  have HW9 := Lib.hid (HW8.out.trans (hb9.mono HW8.out.size))
  have hsz9 : wb.heap.size ≤ w9.heap.size := Nat.le_trans hsz8 hb9.size
  have HX09 := Lib.hid (HX08.out.below hb9 (Nat.lt_of_lt_of_le hxx0 hsz8))
  have HX19 := Lib.hid (HX18.out.below hb9 (Nat.lt_of_lt_of_le hxx1 hsz8))
  have HX29 := Lib.hid (HX28.out.below hb9 (Nat.lt_of_lt_of_le hxx2 hsz8))
  have HLa9 := Lib.hid (HLa8.out.below hb9 HLa8.out.lt)
  have HM9 := Lib.hid (HM8.out.now hb9)
  have HV9 := Lib.hid (HV8.out.now hb9)
  have HS9 := Lib.hid (HS8.out.now hb9)
  have HAx9 := Lib.hid (HAx8.out.now hb9)
  have HAy9 := Lib.hid (HAy8.out.now hb9)
  clear hb9
  go_wp2_with
    (first
     | (refine wpList_store_blk rfl 30 (.tmp 8) (.tmp 41) rfl w9.heap.size #[.slice none 0 0, .slice none 0 0, .int .i64 0] rfl rfl _ _ (Blk.new w9 30 #[.slice none 0 0, .slice none 0 0, .int .i64 0]) (by kernel_rfl) rfl (by simp [Value.oneCell']) ?_
        intro w10 hx10 hon10
        have hb10 := hon10.below (below_new w9 (.cells #[.slice none 0 0, .slice none 0 0, .int .i64 0] 30)) (Nat.le_refl _)
        have HB10 := Lib.hid (HB9.out.trans (hb10.mono hsz9))
        have HW10 := Lib.hid (HW9.out.trans (hb10.mono HW9.out.size))
        have hsz10 : wb.heap.size ≤ w10.heap.size := Nat.le_trans hsz9 hb10.size
        have HX010 := Lib.hid (HX09.out.below hb10 (Nat.lt_of_lt_of_le hxx0 hsz9))
        have HX110 := Lib.hid (HX19.out.below hb10 (Nat.lt_of_lt_of_le hxx1 hsz9))
        have HX210 := Lib.hid (HX29.out.below hb10 (Nat.lt_of_lt_of_le hxx2 hsz9))
        have HLa10 := Lib.hid (HLa9.out.below hb10 HLa9.out.lt)
        have HM10 := Lib.hid (HM9.out.now hb10)
        have HV10 := Lib.hid (HV9.out.now hb10)
        have HS10 := Lib.hid (HS9.out.now hb10)
        have HAx10 := Lib.hid (HAx9.out.now hb10)
        have HAy10 := Lib.hid (HAy9.out.now hb10)
        clear hx10 hon10 hb10)
     | (refine wpList_load_g 27 (.tmp 1) rfl rfl w1.heap.size rfl _ _ (HX010.out) _ Try.underlying27 rfl (by kernel_rfl) ?_)
     | (refine wpList_load_g 30 (.tmp 2) rfl rfl (w2.heap.size + 1) rfl _ _ (HX110.out) _ Try.underlying30 rfl (by kernel_rfl) ?_))
  with_reducible refine (HPu.out _ _ _ _ _ _ (HM10.out.alloc' _) (HV10.out.alloc' _) (HS10.out.alloc' _) _ (lit_row w10 #[.int .i64 5, .int .i64 2] 3 [5, 2] 2 _ rfl rfl (by decide) rfl)).mono ?_
  rintro e w11 ⟨vp, rfl, hp, hb11⟩
  have hbb11 : Below w10.heap.size w10 w11 := (below_new w10 _).trans (hb11.mono (by simp))
  have HB11 := Lib.hid (HB10.out.trans (hbb11.mono hsz10))
  have HW11 := Lib.hid (HW10.out.trans (hbb11.mono HW10.out.size))
  have hsz11 : wb.heap.size ≤ w11.heap.size := Nat.le_trans hsz10 hbb11.size
  have HX011 := Lib.hid (HX010.out.below hbb11 (Nat.lt_of_lt_of_le hxx0 hsz10))
  have HX111 := Lib.hid (HX110.out.below hbb11 (Nat.lt_of_lt_of_le hxx1 hsz10))
  have HX211 := Lib.hid (HX210.out.below hbb11 (Nat.lt_of_lt_of_le hxx2 hsz10))
  have HLa11 := Lib.hid (HLa10.out.below hbb11 HLa10.out.lt)
  have HM11 := Lib.hid (HM10.out.now hbb11)
  have HV11 := Lib.hid (HV10.out.now hbb11)
  have HS11 := Lib.hid (HS10.out.now hbb11)
  have HAx11 := Lib.hid (HAx10.out.now hbb11)
  have HAy11 := Lib.hid (HAy10.out.now hbb11)
  clear hb11 hbb11
  have HP11 := Lib.hid hp
  clear hp
  go_wp2_with
    (first
     | (refine wpList_load_g 27 (.tmp 1) rfl rfl w1.heap.size rfl _ _ (HX011.out) _ Try.underlying27 rfl (by kernel_rfl) ?_)
     | (refine wpList_load_g 30 (.tmp 2) rfl rfl (w2.heap.size + 1) rfl _ _ (HX111.out) _ Try.underlying30 rfl (by kernel_rfl) ?_))
  with_reducible refine (HAl.out _ _ _ _ _ _ (HM11.out.alloc' _) (HV11.out.alloc' _) (HS11.out.alloc' _) _ (lit_row w11 #[.int .i64 5, .int .i64 2] 3 [5, 2] 2 _ rfl rfl (by decide) rfl)).mono ?_
  rintro e w12 ⟨rfl, hb12⟩
  have hbb12 : Below w11.heap.size w11 w12 := (below_new w11 _).trans (hb12.mono (by simp))
  have HB12 := Lib.hid (HB11.out.trans (hbb12.mono hsz11))
  have HW12 := Lib.hid (HW11.out.trans (hbb12.mono HW11.out.size))
  have hsz12 : wb.heap.size ≤ w12.heap.size := Nat.le_trans hsz11 hbb12.size
  have HX012 := Lib.hid (HX011.out.below hbb12 (Nat.lt_of_lt_of_le hxx0 hsz11))
  have HX112 := Lib.hid (HX111.out.below hbb12 (Nat.lt_of_lt_of_le hxx1 hsz11))
  have HX212 := Lib.hid (HX211.out.below hbb12 (Nat.lt_of_lt_of_le hxx2 hsz11))
  have HLa12 := Lib.hid (HLa11.out.below hbb12 HLa11.out.lt)
  have HM12 := Lib.hid (HM11.out.now hbb12)
  have HV12 := Lib.hid (HV11.out.now hbb12)
  have HS12 := Lib.hid (HS11.out.now hbb12)
  have HAx12 := Lib.hid (HAx11.out.now hbb12)
  have HAy12 := Lib.hid (HAy11.out.now hbb12)
  have HP12 := Lib.hid (HP11.out.now hbb12)
  clear hb12 hbb12
  go_wp2_with
    (first
     | (refine wpList_load_g 27 (.tmp 1) rfl rfl w1.heap.size rfl _ _ (HX012.out) _ Try.underlying27 rfl (by kernel_rfl) ?_)
     | (refine wpList_load_g 30 (.tmp 2) rfl rfl (w2.heap.size + 1) rfl _ _ (HX112.out) _ Try.underlying30 rfl (by kernel_rfl) ?_))
  with_reducible refine (HR1.out _ _ _ _ _ _ (HM12.out) (HV12.out) (HS12.out)).mono ?_
  rintro e w13 ⟨rfl, hb13⟩
  have HB13 := Lib.hid (HB12.out.trans (hb13.mono hsz12))
  have HW13 := Lib.hid (HW12.out.trans (hb13.mono HW12.out.size))
  have hsz13 : wb.heap.size ≤ w13.heap.size := Nat.le_trans hsz12 hb13.size
  have HX013 := Lib.hid (HX012.out.below hb13 (Nat.lt_of_lt_of_le hxx0 hsz12))
  have HX113 := Lib.hid (HX112.out.below hb13 (Nat.lt_of_lt_of_le hxx1 hsz12))
  have HX213 := Lib.hid (HX212.out.below hb13 (Nat.lt_of_lt_of_le hxx2 hsz12))
  have HLa13 := Lib.hid (HLa12.out.below hb13 HLa12.out.lt)
  have HM13 := Lib.hid (HM12.out.now hb13)
  have HV13 := Lib.hid (HV12.out.now hb13)
  have HS13 := Lib.hid (HS12.out.now hb13)
  have HAx13 := Lib.hid (HAx12.out.now hb13)
  have HAy13 := Lib.hid (HAy12.out.now hb13)
  have HP13 := Lib.hid (HP12.out.now hb13)
  clear hb13
  go_wp2_with
    (first
     | (refine wpList_load_g 27 (.tmp 1) rfl rfl w1.heap.size rfl _ _ (HX013.out) _ Try.underlying27 rfl (by kernel_rfl) ?_))
  with_reducible refine (HR2.out _ _ _ _ _ _ (HM13.out.alloc' _) (HV13.out.alloc' _) (lit_row w13 #[.int .i64 11] 3 [11] 1 _ rfl rfl (by decide) rfl)).mono ?_
  rintro e w14 ⟨rfl, hb14⟩
  have hbb14 : Below w13.heap.size w13 w14 := (below_new w13 _).trans (hb14.mono (by simp))
  have HB14 := Lib.hid (HB13.out.trans (hbb14.mono hsz13))
  have HW14 := Lib.hid (HW13.out.trans (hbb14.mono HW13.out.size))
  have hsz14 : wb.heap.size ≤ w14.heap.size := Nat.le_trans hsz13 hbb14.size
  have HX014 := Lib.hid (HX013.out.below hbb14 (Nat.lt_of_lt_of_le hxx0 hsz13))
  have HX114 := Lib.hid (HX113.out.below hbb14 (Nat.lt_of_lt_of_le hxx1 hsz13))
  have HX214 := Lib.hid (HX213.out.below hbb14 (Nat.lt_of_lt_of_le hxx2 hsz13))
  have HLa14 := Lib.hid (HLa13.out.below hbb14 HLa13.out.lt)
  have HM14 := Lib.hid (HM13.out.now hbb14)
  have HV14 := Lib.hid (HV13.out.now hbb14)
  have HS14 := Lib.hid (HS13.out.now hbb14)
  have HAx14 := Lib.hid (HAx13.out.now hbb14)
  have HAy14 := Lib.hid (HAy13.out.now hbb14)
  have HP14 := Lib.hid (HP13.out.now hbb14)
  clear hb14 hbb14
  go_wp2_with
    (first
     | (refine wpList_load_g 30 (.tmp 2) rfl rfl (w2.heap.size + 1) rfl _ _ (HX114.out) _ Try.underlying30 rfl (by kernel_rfl) ?_))
  with_reducible refine (HD1.out _ _ HS14.out).mono ?_
  rintro e w15 ⟨rfl, hb15⟩
  have HB15 := Lib.hid (HB14.out.trans (hb15.mono hsz14))
  have HW15 := Lib.hid (HW14.out.trans (hb15.mono HW14.out.size))
  have hsz15 : wb.heap.size ≤ w15.heap.size := Nat.le_trans hsz14 hb15.size
  have HX015 := Lib.hid (HX014.out.below hb15 (Nat.lt_of_lt_of_le hxx0 hsz14))
  have HX115 := Lib.hid (HX114.out.below hb15 (Nat.lt_of_lt_of_le hxx1 hsz14))
  have HX215 := Lib.hid (HX214.out.below hb15 (Nat.lt_of_lt_of_le hxx2 hsz14))
  have HLa15 := Lib.hid (HLa14.out.below hb15 HLa14.out.lt)
  have HM15 := Lib.hid (HM14.out.now hb15)
  have HV15 := Lib.hid (HV14.out.now hb15)
  have HS15 := Lib.hid (HS14.out.now hb15)
  have HAx15 := Lib.hid (HAx14.out.now hb15)
  have HAy15 := Lib.hid (HAy14.out.now hb15)
  have HP15 := Lib.hid (HP14.out.now hb15)
  clear hb15
  go_wp2_with fail
  with_reducible refine (HD2.out _).mono ?_
  rintro e w16 ⟨rfl, hb16⟩
  have HB16 := Lib.hid (HB15.out.trans (hb16.mono hsz15))
  have HW16 := Lib.hid (HW15.out.trans (hb16.mono HW15.out.size))
  have hsz16 : wb.heap.size ≤ w16.heap.size := Nat.le_trans hsz15 hb16.size
  have HX016 := Lib.hid (HX015.out.below hb16 (Nat.lt_of_lt_of_le hxx0 hsz15))
  have HX116 := Lib.hid (HX115.out.below hb16 (Nat.lt_of_lt_of_le hxx1 hsz15))
  have HX216 := Lib.hid (HX215.out.below hb16 (Nat.lt_of_lt_of_le hxx2 hsz15))
  have HLa16 := Lib.hid (HLa15.out.below hb16 HLa15.out.lt)
  have HM16 := Lib.hid (HM15.out.now hb16)
  have HV16 := Lib.hid (HV15.out.now hb16)
  have HS16 := Lib.hid (HS15.out.now hb16)
  have HAx16 := Lib.hid (HAx15.out.now hb16)
  have HAy16 := Lib.hid (HAy15.out.now hb16)
  have HP16 := Lib.hid (HP15.out.now hb16)
  clear hb16
  go_wp2_with
    (first
     | (refine wpList_load_g 30 (.tmp 4) rfl rfl w5.heap.size rfl _ _ HLa16.out _ Try.underlying30 rfl (by kernel_rfl) ?_))
  with_reducible refine (HFd.out _ _ _ HAy16.out).mono ?_
  rintro e w17 ⟨rfl, hb17⟩
  have HB17 := Lib.hid (HB16.out.trans (hb17.mono hsz16))
  have HW17 := Lib.hid (HW16.out.trans (hb17.mono HW16.out.size))
  have hsz17 : wb.heap.size ≤ w17.heap.size := Nat.le_trans hsz16 hb17.size
  have HX017 := Lib.hid (HX016.out.below hb17 (Nat.lt_of_lt_of_le hxx0 hsz16))
  have HX117 := Lib.hid (HX116.out.below hb17 (Nat.lt_of_lt_of_le hxx1 hsz16))
  have HX217 := Lib.hid (HX216.out.below hb17 (Nat.lt_of_lt_of_le hxx2 hsz16))
  have HLa17 := Lib.hid (HLa16.out.below hb17 HLa16.out.lt)
  have HM17 := Lib.hid (HM16.out.now hb17)
  have HV17 := Lib.hid (HV16.out.now hb17)
  have HS17 := Lib.hid (HS16.out.now hb17)
  have HAx17 := Lib.hid (HAx16.out.now hb17)
  have HAy17 := Lib.hid (HAy16.out.now hb17)
  have HP17 := Lib.hid (HP16.out.now hb17)
  clear hb17
  go_wp2_with fail
  with_reducible refine (HSm.out _ _ [0, 7] _ (HP17.out.alloc' _) (lit_row w17 #[.int .i64 0, .int .i64 7] 3 [0, 7] 2 _ rfl rfl (by decide) rfl)).mono ?_
  rintro e w18 ⟨rfl, hb18⟩
  have hbb18 : Below w17.heap.size w17 w18 := (below_new w17 _).trans (hb18.mono (by simp))
  have HB18 := Lib.hid (HB17.out.trans (hbb18.mono hsz17))
  have HW18 := Lib.hid (HW17.out.trans (hbb18.mono HW17.out.size))
  have hsz18 : wb.heap.size ≤ w18.heap.size := Nat.le_trans hsz17 hbb18.size
  have HX018 := Lib.hid (HX017.out.below hbb18 (Nat.lt_of_lt_of_le hxx0 hsz17))
  have HX118 := Lib.hid (HX117.out.below hbb18 (Nat.lt_of_lt_of_le hxx1 hsz17))
  have HX218 := Lib.hid (HX217.out.below hbb18 (Nat.lt_of_lt_of_le hxx2 hsz17))
  have HLa18 := Lib.hid (HLa17.out.below hbb18 HLa17.out.lt)
  have HM18 := Lib.hid (HM17.out.now hbb18)
  have HV18 := Lib.hid (HV17.out.now hbb18)
  have HS18 := Lib.hid (HS17.out.now hbb18)
  have HAx18 := Lib.hid (HAx17.out.now hbb18)
  have HAy18 := Lib.hid (HAy17.out.now hbb18)
  have HP18 := Lib.hid (HP17.out.now hbb18)
  clear hb18 hbb18
  go_wp2_with
    (first
     | (refine wpList_load_g 27 (.tmp 1) rfl rfl w1.heap.size rfl _ _ (HX018.out) _ Try.underlying27 rfl (by kernel_rfl) ?_)
     | (refine wpList_load_g 30 (.tmp 2) rfl rfl (w2.heap.size + 1) rfl _ _ (HX118.out) _ Try.underlying30 rfl (by kernel_rfl) ?_))
  with_reducible refine (HOr.out _ _ _ _ _ _ (HM18.out) (HV18.out) (HS18.out)).mono ?_
  rintro e w19 ⟨vo, rfl, ho, hb19⟩
  have HB19 := Lib.hid (HB18.out.trans (hb19.mono hsz18))
  have HW19 := Lib.hid (HW18.out.trans (hb19.mono HW18.out.size))
  have hsz19 : wb.heap.size ≤ w19.heap.size := Nat.le_trans hsz18 hb19.size
  have HX019 := Lib.hid (HX018.out.below hb19 (Nat.lt_of_lt_of_le hxx0 hsz18))
  have HX119 := Lib.hid (HX118.out.below hb19 (Nat.lt_of_lt_of_le hxx1 hsz18))
  have HX219 := Lib.hid (HX218.out.below hb19 (Nat.lt_of_lt_of_le hxx2 hsz18))
  have HLa19 := Lib.hid (HLa18.out.below hb19 HLa18.out.lt)
  have HM19 := Lib.hid (HM18.out.now hb19)
  have HV19 := Lib.hid (HV18.out.now hb19)
  have HS19 := Lib.hid (HS18.out.now hb19)
  have HAx19 := Lib.hid (HAx18.out.now hb19)
  have HAy19 := Lib.hid (HAy18.out.now hb19)
  have HP19 := Lib.hid (HP18.out.now hb19)
  clear hb19
  have HO19 := Lib.hid ho
  clear ho
  go_wp2_with fail
  with_reducible refine (HSm.out _ _ [11, 12] _ (HO19.out.alloc' _) (lit_row w19 #[.int .i64 11, .int .i64 12] 3 [11, 12] 2 _ rfl rfl (by decide) rfl)).mono ?_
  rintro e w20 ⟨rfl, hb20⟩
  have hbb20 : Below w19.heap.size w19 w20 := (below_new w19 _).trans (hb20.mono (by simp))
  have HB20 := Lib.hid (HB19.out.trans (hbb20.mono hsz19))
  have HW20 := Lib.hid (HW19.out.trans (hbb20.mono HW19.out.size))
  have hsz20 : wb.heap.size ≤ w20.heap.size := Nat.le_trans hsz19 hbb20.size
  have HX020 := Lib.hid (HX019.out.below hbb20 (Nat.lt_of_lt_of_le hxx0 hsz19))
  have HX120 := Lib.hid (HX119.out.below hbb20 (Nat.lt_of_lt_of_le hxx1 hsz19))
  have HX220 := Lib.hid (HX219.out.below hbb20 (Nat.lt_of_lt_of_le hxx2 hsz19))
  have HLa20 := Lib.hid (HLa19.out.below hbb20 HLa19.out.lt)
  have HM20 := Lib.hid (HM19.out.now hbb20)
  have HV20 := Lib.hid (HV19.out.now hbb20)
  have HS20 := Lib.hid (HS19.out.now hbb20)
  have HAx20 := Lib.hid (HAx19.out.now hbb20)
  have HAy20 := Lib.hid (HAy19.out.now hbb20)
  have HP20 := Lib.hid (HP19.out.now hbb20)
  clear hb20 hbb20
  go_wp2_with
    (first
     | (refine wpList_load_g 27 (.tmp 1) rfl rfl w1.heap.size rfl _ _ (HX020.out) _ Try.underlying27 rfl (by kernel_rfl) ?_)
     | (refine wpList_load_g 30 (.tmp 2) rfl rfl (w2.heap.size + 1) rfl _ _ (HX120.out) _ Try.underlying30 rfl (by kernel_rfl) ?_))
  with_reducible refine (HN1.out _ _ _ _ _ _ (HM20.out) (HV20.out) (HS20.out)).mono ?_
  rintro e w21 ⟨v21, rfl, ho, hb21⟩
  have HB21 := Lib.hid (HB20.out.trans (hb21.mono hsz20))
  have HW21 := Lib.hid (HW20.out.trans (hb21.mono HW20.out.size))
  have hsz21 : wb.heap.size ≤ w21.heap.size := Nat.le_trans hsz20 hb21.size
  have HX021 := Lib.hid (HX020.out.below hb21 (Nat.lt_of_lt_of_le hxx0 hsz20))
  have HX121 := Lib.hid (HX120.out.below hb21 (Nat.lt_of_lt_of_le hxx1 hsz20))
  have HX221 := Lib.hid (HX220.out.below hb21 (Nat.lt_of_lt_of_le hxx2 hsz20))
  have HLa21 := Lib.hid (HLa20.out.below hb21 HLa20.out.lt)
  have HM21 := Lib.hid (HM20.out.now hb21)
  have HV21 := Lib.hid (HV20.out.now hb21)
  have HS21 := Lib.hid (HS20.out.now hb21)
  have HAx21 := Lib.hid (HAx20.out.now hb21)
  have HAy21 := Lib.hid (HAy20.out.now hb21)
  have HP21 := Lib.hid (HP20.out.now hb21)
  clear hb21
  have HO21 := Lib.hid ho
  clear ho
  go_wp2_with fail
  with_reducible refine (HSm.out _ _ [11] _ (HO21.out.alloc' _) (lit_row w21 #[.int .i64 11] 3 [11] 1 _ rfl rfl (by decide) rfl)).mono ?_
  rintro e w22 ⟨rfl, hb22⟩
  have hbb22 : Below w21.heap.size w21 w22 := (below_new w21 _).trans (hb22.mono (by simp))
  have HB22 := Lib.hid (HB21.out.trans (hbb22.mono hsz21))
  have HW22 := Lib.hid (HW21.out.trans (hbb22.mono HW21.out.size))
  have hsz22 : wb.heap.size ≤ w22.heap.size := Nat.le_trans hsz21 hbb22.size
  have HX022 := Lib.hid (HX021.out.below hbb22 (Nat.lt_of_lt_of_le hxx0 hsz21))
  have HX122 := Lib.hid (HX121.out.below hbb22 (Nat.lt_of_lt_of_le hxx1 hsz21))
  have HX222 := Lib.hid (HX221.out.below hbb22 (Nat.lt_of_lt_of_le hxx2 hsz21))
  have HLa22 := Lib.hid (HLa21.out.below hbb22 HLa21.out.lt)
  have HM22 := Lib.hid (HM21.out.now hbb22)
  have HV22 := Lib.hid (HV21.out.now hbb22)
  have HS22 := Lib.hid (HS21.out.now hbb22)
  have HAx22 := Lib.hid (HAx21.out.now hbb22)
  have HAy22 := Lib.hid (HAy21.out.now hbb22)
  have HP22 := Lib.hid (HP21.out.now hbb22)
  clear hb22 hbb22
  go_wp2_with
    (first
     | (refine wpList_load_g 27 (.tmp 1) rfl rfl w1.heap.size rfl _ _ (HX022.out) _ Try.underlying27 rfl (by kernel_rfl) ?_)
     | (refine wpList_load_g 30 (.tmp 4) rfl rfl w5.heap.size rfl _ _ HLa22.out _ Try.underlying30 rfl (by kernel_rfl) ?_))
  with_reducible refine (HN2.out _ _ _ _ _ _ HM22.out HV22.out HAx22.out _ HAy22.out).mono ?_
  rintro e w23 ⟨v23, rfl, ho, hb23⟩
  have HB23 := Lib.hid (HB22.out.trans (hb23.mono hsz22))
  have HW23 := Lib.hid (HW22.out.trans (hb23.mono HW22.out.size))
  have hsz23 : wb.heap.size ≤ w23.heap.size := Nat.le_trans hsz22 hb23.size
  have HX023 := Lib.hid (HX022.out.below hb23 (Nat.lt_of_lt_of_le hxx0 hsz22))
  have HX123 := Lib.hid (HX122.out.below hb23 (Nat.lt_of_lt_of_le hxx1 hsz22))
  have HX223 := Lib.hid (HX222.out.below hb23 (Nat.lt_of_lt_of_le hxx2 hsz22))
  have HLa23 := Lib.hid (HLa22.out.below hb23 HLa22.out.lt)
  have HM23 := Lib.hid (HM22.out.now hb23)
  have HV23 := Lib.hid (HV22.out.now hb23)
  have HS23 := Lib.hid (HS22.out.now hb23)
  have HAx23 := Lib.hid (HAx22.out.now hb23)
  have HAy23 := Lib.hid (HAy22.out.now hb23)
  have HP23 := Lib.hid (HP22.out.now hb23)
  clear hb23
  have HO23 := Lib.hid ho
  clear ho
  go_wp2_with fail
  with_reducible refine (HSm.out _ _ [12] _ (HO23.out.alloc' _) (lit_row w23 #[.int .i64 12] 3 [12] 1 _ rfl rfl (by decide) rfl)).mono ?_
  rintro e w24 ⟨rfl, hb24⟩
  have hbb24 : Below w23.heap.size w23 w24 := (below_new w23 _).trans (hb24.mono (by simp))
  have HB24 := Lib.hid (HB23.out.trans (hbb24.mono hsz23))
  have HW24 := Lib.hid (HW23.out.trans (hbb24.mono HW23.out.size))
  have hsz24 : wb.heap.size ≤ w24.heap.size := Nat.le_trans hsz23 hbb24.size
  have HX024 := Lib.hid (HX023.out.below hbb24 (Nat.lt_of_lt_of_le hxx0 hsz23))
  have HX124 := Lib.hid (HX123.out.below hbb24 (Nat.lt_of_lt_of_le hxx1 hsz23))
  have HX224 := Lib.hid (HX223.out.below hbb24 (Nat.lt_of_lt_of_le hxx2 hsz23))
  have HLa24 := Lib.hid (HLa23.out.below hbb24 HLa23.out.lt)
  have HM24 := Lib.hid (HM23.out.now hbb24)
  have HV24 := Lib.hid (HV23.out.now hbb24)
  have HS24 := Lib.hid (HS23.out.now hbb24)
  have HAx24 := Lib.hid (HAx23.out.now hbb24)
  have HAy24 := Lib.hid (HAy23.out.now hbb24)
  have HP24 := Lib.hid (HP23.out.now hbb24)
  clear hb24 hbb24
  go_wp2_with fail
  go_ret
  exact ⟨rfl, HW24.out⟩
end Go.Proofs.Yticoeibccdplaaa
