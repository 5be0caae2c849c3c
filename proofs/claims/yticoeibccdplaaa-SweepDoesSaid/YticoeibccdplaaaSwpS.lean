/-
  Push and All of chapter 56, and the reference's, walked.
-/
import Derived.Test.YticoeibccdplaaaSwpL
namespace Go.Proofs.Yticoeibccdplaaa
open Go.RowKit

/-- what Push returns -/
def PushR (bef : Int → Int → Bool) (out : Int → Bool) (runs people : List Int) (run : Int) (w : World) (e : Ending) (w' : World) : Prop :=
  Below w.heap.size w w' ∧ ((formB runs people = false ∧ e = .returned (.tuple #[.slice none 0 0, .int .i64 0, .int .i64 3])) ∨ (formB runs people = true ∧ runs.contains run = false ∧ e = .returned (.tuple #[.slice none 0 0, .int .i64 0, .int .i64 8])) ∨
    (formB runs people = true ∧ ∃ (j : Nat) (v : Value), j < runs.length ∧ runs.getD j 0 = run ∧ indI runs run = (j : Int) ∧ e = .returned (.tuple #[v, .int .i64 (pushN bef out runs people j).2, .int .i64 0]) ∧ OwnI w' w.heap.size v (pushN bef out runs people j).1))
theorem pushR_form {bef out runs people run w w'} (h : formB runs people = false) (hb : Below w.heap.size w w') : PushR bef out runs people run w (.returned (.tuple #[.slice none 0 0, .int .i64 0, .int .i64 3])) w' := ⟨hb, .inl ⟨h, rfl⟩⟩
theorem pushR_none {bef out runs people run w w'} (h : formB runs people = true) (h2 : runs.contains run = false) (hb : Below w.heap.size w w') : PushR bef out runs people run w (.returned (.tuple #[.slice none 0 0, .int .i64 0, .int .i64 8])) w' := ⟨hb, .inr (.inl ⟨h, h2, rfl⟩)⟩

set_option maxRecDepth 100000 in
set_option maxHeartbeats 4000000 in
theorem Push_any (vn vl vr vb v1 v2 vp : Value) (bg : Int) (rs : List Rn) (bs runs people : List Int) (run : Int) (w : World) (hm : StrV Rn.cells 7 w w.heap.size vr rs) (hb : RowV w w.heap.size vb bs) (hr1 : RowV w w.heap.size v1 runs) (hp : RowV w w.heap.size vp people) (hlim : runs.length ≤ 1000) :
    Calls Try.prog 28 #[.agg #[vn, vl, vr, vb], .agg #[v1, v2, .int .i64 bg], vp, .int .i64 run] w (PushR (befP rs) (outP rs bs) runs people run w) := by
  obtain ⟨A1, n1, c1, rfl, HL1, h11, h12, hr1'⟩ := hr1.nam
  obtain ⟨Ap, np, cp, rfl, HLp, h3, h4, hp'⟩ := hp.nam
  have hn1 : n1 ≤ maxLen := Nat.le_trans h11 h12
  have HRv := Lib.hid hr1
  have HR := Lib.hid hr1'
  have HBv := Lib.hid hb
  have HM := Lib.hid hm
  have HPv := Lib.hid hp
  have HPp := Lib.hid hp'
  have hlim' : n1 ≤ 1000 := by rw [← HL1.out]; exact hlim
  obtain ⟨fb, hfb⟩ : ∃ b, formB runs people = b := ⟨_, rfl⟩
  have HFb := Lib.hid hfb
  have HCf : Hid (∀ (W : World), RowV W W.heap.size (.slice A1 n1 c1) runs → RowV W W.heap.size (.slice Ap np cp) people → Calls Try.prog 53 #[.agg #[.slice A1 n1 c1, v2, .int .i64 bg], .slice Ap np cp] W fun e w' => e = .returned (.bool fb) ∧ Below W.heap.size W w') := fun W q1 q2 => formed_any _ v2 bg runs people _ fb W q1 q2 hfb
  clear hm hb hr1 hr1' hp hp' hfb h11 h12 h3 h4 hlim
  go_enter Try.func28, Try.ntmps28
  go_wp2_with fail
  have HBwz0 := (Blk.new w 27 #[vn, vl, vr, vb])
  have HLwz0 := (below_new w (.cells #[vn, vl, vr, vb] 27))
  have hswz0 : (w.alloc (.cells #[vn, vl, vr, vb] 27)).heap.size = w.heap.size + 1 := by simp
  generalize w.alloc (.cells #[vn, vl, vr, vb] 27) = wz0 at HBwz0 HLwz0 hswz0 ⊢
  replace HBwz0 := Lib.hid HBwz0
  replace HLwz0 := Lib.hid HLwz0
  have hlwz0 : w.heap.size < wz0.heap.size := by omega
  replace hswz0 := Lib.hid hswz0
  have HBwb := (Blk.new wz0 30 #[.slice A1 n1 c1, v2, .int .i64 bg])
  have HLwb := (below_new wz0 (.cells #[.slice A1 n1 c1, v2, .int .i64 bg] 30))
  have hswb : (wz0.alloc (.cells #[.slice A1 n1 c1, v2, .int .i64 bg] 30)).heap.size = wz0.heap.size + 1 := by simp
  generalize wz0.alloc (.cells #[.slice A1 n1 c1, v2, .int .i64 bg] 30) = wb at HBwb HLwb hswb ⊢
  replace HBwb := Lib.hid HBwb
  replace HLwb := Lib.hid HLwb
  have hlwb : wz0.heap.size < wb.heap.size := by omega
  replace hswb := Lib.hid hswb
  have HQ1 := Lib.hid (HLwz0.out.trans (HLwb.out.mono HLwz0.out.size))
  have HWb := Lib.hid (HQ1.out)
  have hl0 : w.heap.size ≤ wb.heap.size := HWb.out.size
  have HBb : Hid (Below wb.heap.size wb wb) := hide (Below.refl _ _)
  have hszb : wb.heap.size ≤ wb.heap.size := Nat.le_refl _
  have HZ0_1 := Lib.hid (HBwz0.out.below HLwb.out hlwz0)
  have hz0_1 : w.heap.size < wb.heap.size := HZ0_1.out.lt
  have HX0b : Hid (Blk wb w.heap.size 27 #[vn, vl, vr, vb]) := hide HZ0_1.out
  have hxx0 : w.heap.size < wb.heap.size := HX0b.out.lt
  have HX1b : Hid (Blk wb (w.heap.size + 1) 30 #[.slice A1 n1 c1, v2, .int .i64 bg]) := hide (by have h := HBwb.out; rw [show wz0.heap.size = w.heap.size + 1 from by have := hswz0.out; omega] at h; exact h)
  have hxx1 : (w.heap.size + 1) < wb.heap.size := HX1b.out.lt
  clear HBwz0 HLwz0 hswz0 hlwz0
  clear HBwb HLwb hswb hlwb
  have HMb := Lib.hid (HM.out.now HWb.out)
  have HRb := Lib.hid (HR.out.now HWb.out)
  have HBvb := Lib.hid (HBv.out.now HWb.out)
  have HRvb := Lib.hid (HRv.out.now HWb.out)
  have HPvb := Lib.hid (HPv.out.now HWb.out)
  have HPpb := Lib.hid (HPp.out.now HWb.out)
  go_wp2_with
    (first
     | (refine wpList_load_g 30 (.tmp 5) rfl rfl (w.heap.size + 1) rfl _ _ HX1b.out _ Try.underlying30 rfl (by kernel_rfl) ?_))
  with_reducible refine (HCf.out _ HRvb.out HPvb.out).mono ?_
  rintro e w1 ⟨rfl, hb1⟩
  have HB1 := Lib.hid (HBb.out.trans (hb1.mono hszb))
  have HW1 := Lib.hid (HWb.out.trans (hb1.mono HWb.out.size))
  have hsz1 : wb.heap.size ≤ w1.heap.size := Nat.le_trans hszb hb1.size
  have HX01 := Lib.hid (HX0b.out.below hb1 (Nat.lt_of_lt_of_le hxx0 hszb))
  have HX11 := Lib.hid (HX1b.out.below hb1 (Nat.lt_of_lt_of_le hxx1 hszb))
  have HM1 := Lib.hid (HMb.out.now hb1)
  have HR1 := Lib.hid (HRb.out.now hb1)
  have HBv1 := Lib.hid (HBvb.out.now hb1)
  have HRv1 := Lib.hid (HRvb.out.now hb1)
  have HPv1 := Lib.hid (HPvb.out.now hb1)
  have HPp1 := Lib.hid (HPpb.out.now hb1)
  clear hb1
  cases fb with
  | false =>
    go_wp2_with fail
    go_ret3
    exact pushR_form HFb.out HW1.out
  | true =>
    have s0 : w1.cell? ⟨w.heap.size + 1, 0, none⟩ = some (.slice A1 n1 c1) := HX11.out.cell 0
    have s1 : w1.cell? ⟨w.heap.size + 1, 1, none⟩ = some (v2) := HX11.out.cell 1
    have s2 : w1.cell? ⟨w.heap.size + 1, 2, none⟩ = some (.int .i64 bg) := HX11.out.cell 2
    go_wp2_with fail
    with_reducible refine (index_any _ n1 c1 _ runs run _ HR1.out hn1).mono ?_
    rintro e w' ⟨rfl, rfl⟩
    clear s0 s1 s2
    by_cases hin : run ∈ runs
    · obtain ⟨j, hj, hjl, hjx⟩ := ind_of hin
      have HJ := Lib.hid hj
      have HJx := Lib.hid hjx
      rw [hj]
      obtain ⟨hpl, hp0, hp1⟩ := form_of HFb.out
      have hnp : np = n1 := by rw [← HLp.out, ← HL1.out]; exact hpl
      subst hnp
      have hjn : j < np := by rw [← HL1.out]; exact hjl
      have HBd : Hid (∀ z ∈ people, 0 ≤ z ∧ z ≤ 100000000000) := fun z hz => ⟨hp0 z hz, by have := hp1 z hz; omega⟩
      clear hj hjx hjl hpl hp0 hp1
      go_wp2_with fail
      with_reducible refine (clone_i _ _ _ _ people _ HPp1.out (by omega) (Nat.le_refl _)).mono ?_
      rintro e w2 ⟨vc, rfl, hoc, hb2⟩
      obtain ⟨g, cap, rfl, hgb, hgl, hc1', hc2'⟩ := own_form (OwnI.row hoc HLp.out) (show 0 < np by omega)
      have HO2 : Hid (OwnG 3 w2 w1.heap.size g np cap people) := hide (OwnI.row hoc HLp.out)
      have HMx : Hid (StrV Rn.cells 7 w2 w1.heap.size vr rs) := hide (HM1.out.below hb2)
      have HBx : Hid (RowV w2 w1.heap.size vb bs) := hide (HBv1.out.below hb2)
      have HRx : Hid (RowV w2 w1.heap.size (.slice A1 np c1) runs) := hide (HRv1.out.below hb2)
      have hs12 := hb2.size
      have HB2 := Lib.hid (HB1.out.trans (hb2.mono hsz1))
      have HW2 := Lib.hid (HW1.out.trans (hb2.mono HW1.out.size))
      have hsz2 : wb.heap.size ≤ w2.heap.size := Nat.le_trans hsz1 hb2.size
      have HX02 := Lib.hid (HX01.out.below hb2 (Nat.lt_of_lt_of_le hxx0 hsz1))
      have HX12 := Lib.hid (HX11.out.below hb2 (Nat.lt_of_lt_of_le hxx1 hsz1))
      have HM2 := Lib.hid (HM1.out.now hb2)
      have HR2 := Lib.hid (HR1.out.now hb2)
      have HBv2 := Lib.hid (HBv1.out.now hb2)
      have HRv2 := Lib.hid (HRv1.out.now hb2)
      have HPv2 := Lib.hid (HPv1.out.now hb2)
      have HPp2 := Lib.hid (HPp1.out.now hb2)
      clear hb2 hoc
      go_wp2_with
        (first
         | (refine wpList_load_g 27 (.tmp 4) rfl rfl w.heap.size rfl _ _ HX02.out _ Try.underlying27 rfl (by kernel_rfl) ?_)
         | (refine wpList_load_g 30 (.tmp 5) rfl rfl (w.heap.size + 1) rfl _ _ HX12.out _ Try.underlying30 rfl (by kernel_rfl) ?_))
      with_reducible refine (push_any vn vl vr vb _ v2 bg rs bs runs people g np cap w1.heap.size j _ HMx.out HBx.out HRx.out HO2.out HL1.out hjn hs12 hlim' HBd.out).mono ?_
      rintro e w3 ⟨rfl, ho3, hg3⟩
      have HO3 := Lib.hid ho3
      have HW3 : Hid (Below w.heap.size w w3) := hide (HW2.out.trans (below_grown hg3 HW2.out.size (Nat.le_trans HW1.out.size hgb)))
      clear ho3 hg3
      go_wp2_with fail
      go_ret3
      exact ⟨HW3.out, .inr (.inr ⟨HFb.out, j, _, by rw [HL1.out]; exact hjn, HJx.out, HJ.out, rfl, own_i HW1.out.size HO3.out (by have h := HO3.out.1; rw [List.length_map, Nat.mul_one] at h; exact h.symm) rfl⟩)⟩
    · have HN : Hid (runs.contains run = false) := hide (by simpa using hin)
      have hlt : indI runs run < 0 := by
        have h := contains_ind runs run 0
        rw [HN.out] at h
        have h2 := of_decide_eq_false h.symm
        unfold indI
        omega
      go_wp2_with fail
      go_ret3
      exact pushR_none HFb.out HN.out HW1.out

set_option maxRecDepth 100000 in
set_option maxHeartbeats 4000000 in
theorem rPush_any (vn vl vr vb v1 v2 vp : Value) (bg : Int) (rs : List Rn) (bs runs people : List Int) (run : Int) (w : World) (hm : StrV Rn.cells 7 w w.heap.size vr rs) (hb : RowV w w.heap.size vb bs) (hr1 : RowV w w.heap.size v1 runs) (hp : RowV w w.heap.size vp people) (hlim : runs.length ≤ 1000) (hlow : ∀ x ∈ runs, outR rs bs x = false → 0 ≤ lowI (befR rs) runs x) :
    Calls Try.prog 29 #[.agg #[vn, vl, vr, vb], .agg #[v1, v2, .int .i64 bg], vp, .int .i64 run] w (PushR (befR rs) (outR rs bs) runs people run w) := by
  obtain ⟨A1, n1, c1, rfl, HL1, h11, h12, hr1'⟩ := hr1.nam
  obtain ⟨Ap, np, cp, rfl, HLp, h3, h4, hp'⟩ := hp.nam
  have hn1 : n1 ≤ maxLen := Nat.le_trans h11 h12
  have HRv := Lib.hid hr1
  have HR := Lib.hid hr1'
  have HBv := Lib.hid hb
  have HM := Lib.hid hm
  have HPv := Lib.hid hp
  have HPp := Lib.hid hp'
  have hlim' : n1 ≤ 1000 := by rw [← HL1.out]; exact hlim
  obtain ⟨fb, hfb⟩ : ∃ b, formB runs people = b := ⟨_, rfl⟩
  have HFb := Lib.hid hfb
  have HCf : Hid (∀ (W : World), RowV W W.heap.size (.slice A1 n1 c1) runs → RowV W W.heap.size (.slice Ap np cp) people → Calls Try.prog 56 #[.agg #[.slice A1 n1 c1, v2, .int .i64 bg], .slice Ap np cp] W fun e w' => e = .returned (.bool fb) ∧ Below W.heap.size W w') := fun W q1 q2 => counted_any _ v2 bg runs people _ fb W q1 q2 hfb
  clear hm hb hr1 hr1' hp hp' hfb h11 h12 h3 h4 hlim
  go_enter Try.func29, Try.ntmps29
  go_wp2_with fail
  have HBwz0 := (Blk.new w 27 #[vn, vl, vr, vb])
  have HLwz0 := (below_new w (.cells #[vn, vl, vr, vb] 27))
  have hswz0 : (w.alloc (.cells #[vn, vl, vr, vb] 27)).heap.size = w.heap.size + 1 := by simp
  generalize w.alloc (.cells #[vn, vl, vr, vb] 27) = wz0 at HBwz0 HLwz0 hswz0 ⊢
  replace HBwz0 := Lib.hid HBwz0
  replace HLwz0 := Lib.hid HLwz0
  have hlwz0 : w.heap.size < wz0.heap.size := by omega
  replace hswz0 := Lib.hid hswz0
  have HBwb := (Blk.new wz0 30 #[.slice A1 n1 c1, v2, .int .i64 bg])
  have HLwb := (below_new wz0 (.cells #[.slice A1 n1 c1, v2, .int .i64 bg] 30))
  have hswb : (wz0.alloc (.cells #[.slice A1 n1 c1, v2, .int .i64 bg] 30)).heap.size = wz0.heap.size + 1 := by simp
  generalize wz0.alloc (.cells #[.slice A1 n1 c1, v2, .int .i64 bg] 30) = wb at HBwb HLwb hswb ⊢
  replace HBwb := Lib.hid HBwb
  replace HLwb := Lib.hid HLwb
  have hlwb : wz0.heap.size < wb.heap.size := by omega
  replace hswb := Lib.hid hswb
  have HQ1 := Lib.hid (HLwz0.out.trans (HLwb.out.mono HLwz0.out.size))
  have HWb := Lib.hid (HQ1.out)
  have hl0 : w.heap.size ≤ wb.heap.size := HWb.out.size
  have HBb : Hid (Below wb.heap.size wb wb) := hide (Below.refl _ _)
  have hszb : wb.heap.size ≤ wb.heap.size := Nat.le_refl _
  have HZ0_1 := Lib.hid (HBwz0.out.below HLwb.out hlwz0)
  have hz0_1 : w.heap.size < wb.heap.size := HZ0_1.out.lt
  have HX0b : Hid (Blk wb w.heap.size 27 #[vn, vl, vr, vb]) := hide HZ0_1.out
  have hxx0 : w.heap.size < wb.heap.size := HX0b.out.lt
  have HX1b : Hid (Blk wb (w.heap.size + 1) 30 #[.slice A1 n1 c1, v2, .int .i64 bg]) := hide (by have h := HBwb.out; rw [show wz0.heap.size = w.heap.size + 1 from by have := hswz0.out; omega] at h; exact h)
  have hxx1 : (w.heap.size + 1) < wb.heap.size := HX1b.out.lt
  clear HBwz0 HLwz0 hswz0 hlwz0
  clear HBwb HLwb hswb hlwb
  have HMb := Lib.hid (HM.out.now HWb.out)
  have HRb := Lib.hid (HR.out.now HWb.out)
  have HBvb := Lib.hid (HBv.out.now HWb.out)
  have HRvb := Lib.hid (HRv.out.now HWb.out)
  have HPvb := Lib.hid (HPv.out.now HWb.out)
  have HPpb := Lib.hid (HPp.out.now HWb.out)
  go_wp2_with
    (first
     | (refine wpList_load_g 30 (.tmp 5) rfl rfl (w.heap.size + 1) rfl _ _ HX1b.out _ Try.underlying30 rfl (by kernel_rfl) ?_))
  with_reducible refine (HCf.out _ HRvb.out HPvb.out).mono ?_
  rintro e w1 ⟨rfl, hb1⟩
  have HB1 := Lib.hid (HBb.out.trans (hb1.mono hszb))
  have HW1 := Lib.hid (HWb.out.trans (hb1.mono HWb.out.size))
  have hsz1 : wb.heap.size ≤ w1.heap.size := Nat.le_trans hszb hb1.size
  have HX01 := Lib.hid (HX0b.out.below hb1 (Nat.lt_of_lt_of_le hxx0 hszb))
  have HX11 := Lib.hid (HX1b.out.below hb1 (Nat.lt_of_lt_of_le hxx1 hszb))
  have HM1 := Lib.hid (HMb.out.now hb1)
  have HR1 := Lib.hid (HRb.out.now hb1)
  have HBv1 := Lib.hid (HBvb.out.now hb1)
  have HRv1 := Lib.hid (HRvb.out.now hb1)
  have HPv1 := Lib.hid (HPvb.out.now hb1)
  have HPp1 := Lib.hid (HPpb.out.now hb1)
  clear hb1
  cases fb with
  | false =>
    go_wp2_with fail
    go_ret3
    exact pushR_form HFb.out HW1.out
  | true =>
    have s0 : w1.cell? ⟨w.heap.size + 1, 0, none⟩ = some (.slice A1 n1 c1) := HX11.out.cell 0
    have s1 : w1.cell? ⟨w.heap.size + 1, 1, none⟩ = some (v2) := HX11.out.cell 1
    have s2 : w1.cell? ⟨w.heap.size + 1, 2, none⟩ = some (.int .i64 bg) := HX11.out.cell 2
    go_wp2_with fail
    with_reducible refine (rindex_any _ n1 c1 _ runs run _ HR1.out hn1).mono ?_
    rintro e w' ⟨rfl, rfl⟩
    clear s0 s1 s2
    by_cases hin : run ∈ runs
    · obtain ⟨j, hj, hjl, hjx⟩ := ind_of hin
      have HJ := Lib.hid hj
      have HJx := Lib.hid hjx
      rw [hj]
      obtain ⟨hpl, hp0, hp1⟩ := form_of HFb.out
      have hnp : np = n1 := by rw [← HLp.out, ← HL1.out]; exact hpl
      subst hnp
      have hjn : j < np := by rw [← HL1.out]; exact hjl
      have HBd : Hid (∀ z ∈ people, 0 ≤ z ∧ z ≤ 100000000000) := fun z hz => ⟨hp0 z hz, by have := hp1 z hz; omega⟩
      clear hj hjx hjl hpl hp0 hp1
      go_wp2_with
        (first
         | (refine wpList_load_g 27 (.tmp 4) rfl rfl w.heap.size rfl _ _ HX01.out _ Try.underlying27 rfl (by kernel_rfl) ?_)
         | (refine wpList_load_g 30 (.tmp 5) rfl rfl (w.heap.size + 1) rfl _ _ HX11.out _ Try.underlying30 rfl (by kernel_rfl) ?_))
      with_reducible refine (pushed_any vn vl vr vb _ v2 _ bg rs bs runs people j _ HM1.out HBv1.out HRv1.out HPv1.out (by rw [HLp.out, HL1.out]) (by rw [HL1.out]; exact hjn) (by rw [HL1.out]; exact hlim') HBd.out (by rw [HJx.out]; exact hlow run hin)).mono ?_
      rintro e w3 ⟨vx, rfl, ho3, hb3⟩
      have HO3 := Lib.hid ho3
      have HW3 : Hid (Below w.heap.size w w3) := hide (HW1.out.trans (hb3.mono HW1.out.size))
      clear ho3 hb3
      go_wp2_with fail
      go_ret3
      exact ⟨HW3.out, .inr (.inr ⟨HFb.out, j, _, by rw [HL1.out]; exact hjn, HJx.out, HJ.out, rfl, HO3.out.mono HW1.out.size⟩)⟩
    · have HN : Hid (runs.contains run = false) := hide (by simpa using hin)
      have hlt : indI runs run < 0 := by
        have h := contains_ind runs run 0
        rw [HN.out] at h
        have h2 := of_decide_eq_false h.symm
        unfold indI
        omega
      go_wp2_with fail
      go_ret3
      exact pushR_none HFb.out HN.out HW1.out
end Go.Proofs.Yticoeibccdplaaa
