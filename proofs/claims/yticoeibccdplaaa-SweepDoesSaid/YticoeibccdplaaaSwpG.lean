/-
  Order, Next, Done, Found and formed of chapter 56, and comparisons of lists, walked.
-/
import Derived.Test.YticoeibccdplaaaSwpF
namespace Go.Proofs.Yticoeibccdplaaa
open Go.RowKit

theorem rowV_nil (w : World) (B : Nat) : RowV w B (.slice none 0 0) [] := by
  unfold RowV
  exact ⟨none, 0, rfl, by simp, by simp [maxLen], Reads.empty⟩
set_option maxRecDepth 100000 in
set_option maxHeartbeats 4000000 in
theorem order_any (vn vl vr vb v1 v2 : Value) (bg : Int) (rs : List Rn) (runs : List Int) (_sw : List Sw) (w : World) (hm : StrV Rn.cells 7 w w.heap.size vr rs) (hr1 : RowV w w.heap.size v1 runs) (hlen : runs.length ≤ 1000) :
    Calls Try.prog 17 #[.agg #[vn, vl, vr, vb], .agg #[v1, v2, .int .i64 bg]] w fun e w' => ∃ v, e = .returned v ∧ OwnI w' w.heap.size v (ordN (befP rs) runs) ∧ Below w.heap.size w w' := by
  have HM := Lib.hid hm
  have HRv := Lib.hid hr1
  have HC : Hid (∀ (vd : Value) (done : List Int) (W : World), StrV Rn.cells 7 W W.heap.size vr rs → RowV W W.heap.size v1 runs → RowV W W.heap.size vd done → Calls Try.prog 48 #[.agg #[vn, vl, vr, vb], .agg #[v1, v2, .int .i64 bg], vd] W fun e w' => ∃ v, e = .returned v ∧ OwnI w' W.heap.size v (readyL (befP rs) runs done) ∧ Below W.heap.size W w') := fun vd done W q1 q2 q3 => ready_any vn vl vr vb v1 v2 vd bg rs runs done W q1 q2 q3 hlen
  clear hm hr1
  generalize befP rs = bef at *
  obtain ⟨n1, hn1⟩ : ∃ n, runs.length = n := ⟨_, rfl⟩
  rw [hn1] at hlen
  have HN := Lib.hid hn1
  clear hn1
  obtain ⟨R, hR⟩ : ∃ R, ordN bef runs = R := ⟨_, rfl⟩
  rw [hR]
  have HF0 : Hid (ordGo bef runs (n1 - 0) [] = R) := hide (by rw [← hR, ordN, HN.out]; rfl)
  clear hR
  go_enter Try.func17, Try.ntmps17
  go_wp2_with fail
  have HBwz0 := (Blk.new w 27 #[vn, vl, vr, vb])
  have HLwz0 := (below_new w (.cells #[vn, vl, vr, vb] 27))
  have hswz0 : (w.alloc (.cells #[vn, vl, vr, vb] 27)).heap.size = w.heap.size + 1 := by simp
  generalize w.alloc (.cells #[vn, vl, vr, vb] 27) = wz0 at HBwz0 HLwz0 hswz0 ⊢
  replace HBwz0 := Lib.hid HBwz0
  replace HLwz0 := Lib.hid HLwz0
  have hlwz0 : w.heap.size < wz0.heap.size := by omega
  replace hswz0 := Lib.hid hswz0
  have HBwb := (Blk.new wz0 30 #[v1, v2, .int .i64 bg])
  have HLwb := (below_new wz0 (.cells #[v1, v2, .int .i64 bg] 30))
  have hswb : (wz0.alloc (.cells #[v1, v2, .int .i64 bg] 30)).heap.size = wz0.heap.size + 1 := by simp
  generalize wz0.alloc (.cells #[v1, v2, .int .i64 bg] 30) = wb at HBwb HLwb hswb ⊢
  replace HBwb := Lib.hid HBwb
  replace HLwb := Lib.hid HLwb
  have hlwb : wz0.heap.size < wb.heap.size := by omega
  replace hswb := Lib.hid hswb
  have HQ1 := Lib.hid (HLwz0.out.trans (HLwb.out.mono HLwz0.out.size))
  have HWb := Lib.hid (HQ1.out)
  have hl0 : w.heap.size ≤ wb.heap.size := HWb.out.size
  have HBb : Hid (Below wb.heap.size wb wb) := hide (Below.refl _ _)
  have hszb : wb.heap.size ≤ wb.heap.size := Nat.le_refl _
  have HZ0_1 := Lib.hid (HBwz0.out.below HLwb.out hlwz0)
  have hz0_1 : w.heap.size < wb.heap.size := HZ0_1.out.lt
  have HX0b : Hid (Blk wb w.heap.size 27 #[vn, vl, vr, vb]) := hide HZ0_1.out
  have hxx0 : w.heap.size < wb.heap.size := HX0b.out.lt
  have HX1b : Hid (Blk wb (w.heap.size + 1) 30 #[v1, v2, .int .i64 bg]) := hide (by have h := HBwb.out; rw [show wz0.heap.size = w.heap.size + 1 from by have := hswz0.out; omega] at h; exact h)
  have hxx1 : (w.heap.size + 1) < wb.heap.size := HX1b.out.lt
  clear HBwz0 HLwz0 hswz0 hlwz0
  clear HBwb HLwb hswb hlwb
  have HMb := Lib.hid (HM.out.now HWb.out)
  have HRvb := Lib.hid (HRv.out.now HWb.out)
  go_wp2_with
    (first
     | (refine wpList_load_g 27 (.tmp 2) rfl rfl w.heap.size rfl _ _ HX0b.out _ Try.underlying27 rfl (by kernel_rfl) ?_)
     | (refine wpList_load_g 30 (.tmp 3) rfl rfl (w.heap.size + 1) rfl _ _ HX1b.out _ Try.underlying30 rfl (by kernel_rfl) ?_))
  with_reducible refine (HC.out (.slice none 0 0) [] _ HMb.out HRvb.out (rowV_nil _ _)).mono ?_
  rintro e w1 ⟨vx, rfl, hx1, hb1⟩
  have HX1 := Lib.hid hx1.rowV
  have HB1 := Lib.hid (HBb.out.trans (hb1.mono hszb))
  have HW1 := Lib.hid (HWb.out.trans (hb1.mono HWb.out.size))
  have hsz1 : wb.heap.size ≤ w1.heap.size := Nat.le_trans hszb hb1.size
  have HX01 := Lib.hid (HX0b.out.below hb1 (Nat.lt_of_lt_of_le hxx0 hszb))
  have HX11 := Lib.hid (HX1b.out.below hb1 (Nat.lt_of_lt_of_le hxx1 hszb))
  have HM1 := Lib.hid (HMb.out.now hb1)
  have HRv1 := Lib.hid (HRvb.out.now hb1)
  clear hb1 hx1
  go_wp2_with fail
  go_loopw [5, 6] (fun vo vx wr => ∃ (out nx : List Int), OwnI wr wb.heap.size vo out ∧ RowV wr wr.heap.size vx nx ∧ nx = readyL bef runs out ∧ out.Nodup ∧ (∀ y ∈ out, y ∈ runs) ∧ ordGo bef runs (n1 - out.length) out = R ∧ Below wb.heap.size wb wr) (fun vo _ _ => n1 - lenV vo)
  case atStart => exact ⟨[], _, OwnI.nil _ _, HX1.out, rfl, by simp, by simp, HF0.out, HB1.out⟩
  case round =>
    obtain ⟨out, nx, hO, hx, hnx, hnd, hsub, hgo, hbr⟩ := hrel
    have HOw := Lib.hid hO
    obtain ⟨Av, nv, cv, rfl, HLv, hv1, hv2, _⟩ := hO.nam
    obtain ⟨Ax, nn, cx, rfl, HLx, hx1, hx2, hxr⟩ := hx.nam
    have HXr := Lib.hid hxr
    have HGo := Lib.hid hgo
    clear hO hx hxr hgo HM1 HB1 HW1 HX01 HX11 HRv1 HX1 hsz1
    obtain ⟨wo, rfl⟩ : ∃ wo : World, wo = wr := ⟨_, rfl⟩
    have HBo := Lib.hid (HBb.out.trans (hbr.mono hszb))
    have HWo := Lib.hid (HWb.out.trans (hbr.mono HWb.out.size))
    have hszo : wb.heap.size ≤ wo.heap.size := Nat.le_trans hszb hbr.size
    have HX0o := Lib.hid (HX0b.out.below hbr (Nat.lt_of_lt_of_le hxx0 hszb))
    have HX1o := Lib.hid (HX1b.out.below hbr (Nat.lt_of_lt_of_le hxx1 hszb))
    have HMo := Lib.hid (HMb.out.now hbr)
    have HRvo := Lib.hid (HRvb.out.now hbr)
    clear hbr
    cases nx with
    | nil =>
      have hz : nn = 0 := HLx.out.symm
      subst hz
      have HS : Hid (out = R) := hide (by rw [← HGo.out, ord_stop hnx.symm])
      go_wp2_with fail
      go_ret
      exact ⟨_, rfl, by rw [← HS.out]; exact HOw.out.mono hl0, HWo.out⟩
    | cons x t =>
      obtain ⟨n', hn'⟩ : ∃ n', nn = n' + 1 := ⟨t.length, by rw [← HLx.out]; rfl⟩
      subst hn'
      obtain ⟨ad, rfl, hab, hc⟩ := HXr.out.int (show 0 < n' + 1 by omega)
      have hc0 : wo.cell? ad = some (.int .i64 x) := by have h := hc; simpa [Addr.add] using h
      obtain ⟨h3, h4, h5, h6⟩ := ord_step hnx.symm hnd hsub
      have HStep := Lib.hid (And.intro h3 (And.intro h4 (h6.symm.trans (show ordGo bef runs (runs.length - out.length) out = R from by rw [HN.out]; exact HGo.out))))
      have hvn : nv + 1 ≤ n1 := by rw [← HLv.out, ← HN.out]; exact h5
      rw [HN.out] at HStep
      clear h3 h4 h5 h6 hnx hnd hsub hc
      have dn : decide (0 < n' + 1) = true := by simp
      have dn2 : decide (((n' + 1 : Nat) : Int) > 0) = true := by simp
      go_wp2_with
        (first
         | (at_builtin
            refine wpList_app_lit ei_ints rfl (.tmp 18) (.tmp 22) rfl wb.heap.size (.slice Av nv cv) nv (out.map (Value.int .i64)) rfl (HOw.out.row HLv.out) 1 rfl rfl (by simp [Value.oneCell']) (by simp only [maxLen]; omega) (by omega) hszo ?_
            intro v2 w2 hown2 hb2 _ _
            have HO2 : Hid (OwnI w2 wb.heap.size v2 (out ++ [x])) := hide (OwnI.mk' hown2 (by rw [List.length_append, HLv.out]; rfl) (by simp))
            have HB2 := Lib.hid (HBo.out.trans hb2)
            have HW2 := Lib.hid (HWb.out.trans (HB2.out.mono hl0))
            have hsz2 := HB2.out.size
            have HX02 := Lib.hid (HX0b.out.below HB2.out hxx0)
            have HX12 := Lib.hid (HX1b.out.below HB2.out hxx1)
            have HM2 := Lib.hid (HMb.out.now HB2.out)
            have HRv2 := Lib.hid (HRvb.out.now HB2.out)
            clear hown2 hb2)
         | (refine wpList_load_g 27 (.tmp 2) rfl rfl w.heap.size rfl _ _ HX02.out _ Try.underlying27 rfl (by kernel_rfl) ?_)
         | (refine wpList_load_g 30 (.tmp 3) rfl rfl (w.heap.size + 1) rfl _ _ HX12.out _ Try.underlying30 rfl (by kernel_rfl) ?_))
      with_reducible refine (HC.out _ (out ++ [x]) _ HM2.out HRv2.out HO2.out.rowV).mono ?_
      rintro e w3 ⟨vx, rfl, hx3, hb3⟩
      have HO3 : Hid (OwnI w3 wb.heap.size v2 (out ++ [x])) := hide (own_below HO2.out hb3 (Nat.le_refl _))
      have HX3 := Lib.hid hx3.rowV
      have HB3 := Lib.hid (HB2.out.trans (hb3.mono hsz2))
      have hv2 : nv + 1 ≤ lenV v2 := by obtain ⟨A', n', c', rfl, hl, _⟩ := HO2.out.nam; show nv + 1 ≤ n'; rw [← hl.out, List.length_append, HLv.out]; simp
      clear hb3 hx3
      go_wp2_with fail
      go_roundw
      case rel => exact ⟨_, _, HO3.out, HX3.out, rfl, HStep.out.1, HStep.out.2.1, HStep.out.2.2, HB3.out⟩
      case measure => show n1 - lenV v2 < n1 - nv; omega

set_option maxRecDepth 100000 in
set_option maxHeartbeats 4000000 in
theorem next_any (vn vl vr vb v1 v2 : Value) (bg : Int) (rs : List Rn) (runs : List Int) (sw : List Sw) (w : World) (hm : StrV Rn.cells 7 w w.heap.size vr rs) (hr1 : RowV w w.heap.size v1 runs) (hr2 : StrV Sw.cells 4 w w.heap.size v2 sw) (hlen : runs.length ≤ 1000) (hlen2 : sw.length ≤ 1000) :
    Calls Try.prog 19 #[.agg #[vn, vl, vr, vb], .agg #[v1, v2, .int .i64 bg]] w fun e w' => ∃ v, e = .returned v ∧ OwnI w' w.heap.size v (readyL (befP rs) runs (sw.map Sw.run)) ∧ Below w.heap.size w w' := by
  have HM := Lib.hid hm
  have HRv := Lib.hid hr1
  have HSv := Lib.hid hr2
  have HC : Hid (∀ (vd : Value) (done : List Int) (W : World), StrV Rn.cells 7 W W.heap.size vr rs → RowV W W.heap.size v1 runs → RowV W W.heap.size vd done → Calls Try.prog 48 #[.agg #[vn, vl, vr, vb], .agg #[v1, v2, .int .i64 bg], vd] W fun e w' => ∃ v, e = .returned v ∧ OwnI w' W.heap.size v (readyL (befP rs) runs done) ∧ Below W.heap.size W w') := fun vd done W q1 q2 q3 => ready_any vn vl vr vb v1 v2 vd bg rs runs done W q1 q2 q3 hlen
  have HC2 : Hid (∀ (W : World), StrV Sw.cells 4 W W.heap.size v2 sw → Calls Try.prog 50 #[.agg #[v1, v2, .int .i64 bg]] W fun e w' => ∃ v, e = .returned v ∧ OwnI w' W.heap.size v (sw.map Sw.run) ∧ Below W.heap.size W w') := fun W q => swept_any v1 v2 bg sw W q hlen2
  clear hm hr1 hr2
  go_enter Try.func19, Try.ntmps19
  go_wp2_with fail
  have HBwz0 := (Blk.new w 27 #[vn, vl, vr, vb])
  have HLwz0 := (below_new w (.cells #[vn, vl, vr, vb] 27))
  have hswz0 : (w.alloc (.cells #[vn, vl, vr, vb] 27)).heap.size = w.heap.size + 1 := by simp
  generalize w.alloc (.cells #[vn, vl, vr, vb] 27) = wz0 at HBwz0 HLwz0 hswz0 ⊢
  replace HBwz0 := Lib.hid HBwz0
  replace HLwz0 := Lib.hid HLwz0
  have hlwz0 : w.heap.size < wz0.heap.size := by omega
  replace hswz0 := Lib.hid hswz0
  have HBwb := (Blk.new wz0 30 #[v1, v2, .int .i64 bg])
  have HLwb := (below_new wz0 (.cells #[v1, v2, .int .i64 bg] 30))
  have hswb : (wz0.alloc (.cells #[v1, v2, .int .i64 bg] 30)).heap.size = wz0.heap.size + 1 := by simp
  generalize wz0.alloc (.cells #[v1, v2, .int .i64 bg] 30) = wb at HBwb HLwb hswb ⊢
  replace HBwb := Lib.hid HBwb
  replace HLwb := Lib.hid HLwb
  have hlwb : wz0.heap.size < wb.heap.size := by omega
  replace hswb := Lib.hid hswb
  have HQ1 := Lib.hid (HLwz0.out.trans (HLwb.out.mono HLwz0.out.size))
  have HWb := Lib.hid (HQ1.out)
  have hl0 : w.heap.size ≤ wb.heap.size := HWb.out.size
  have HBb : Hid (Below wb.heap.size wb wb) := hide (Below.refl _ _)
  have hszb : wb.heap.size ≤ wb.heap.size := Nat.le_refl _
  have HZ0_1 := Lib.hid (HBwz0.out.below HLwb.out hlwz0)
  have hz0_1 : w.heap.size < wb.heap.size := HZ0_1.out.lt
  have HX0b : Hid (Blk wb w.heap.size 27 #[vn, vl, vr, vb]) := hide HZ0_1.out
  have hxx0 : w.heap.size < wb.heap.size := HX0b.out.lt
  have HX1b : Hid (Blk wb (w.heap.size + 1) 30 #[v1, v2, .int .i64 bg]) := hide (by have h := HBwb.out; rw [show wz0.heap.size = w.heap.size + 1 from by have := hswz0.out; omega] at h; exact h)
  have hxx1 : (w.heap.size + 1) < wb.heap.size := HX1b.out.lt
  clear HBwz0 HLwz0 hswz0 hlwz0
  clear HBwb HLwb hswb hlwb
  have HMb := Lib.hid (HM.out.now HWb.out)
  have HRvb := Lib.hid (HRv.out.now HWb.out)
  have HSvb := Lib.hid (HSv.out.now HWb.out)
  have HSvd : Hid (StrV Sw.cells 4 wb.drew wb.drew.heap.size v2 sw) := hide HSvb.out
  have hx0 := HX0b.out
  have hx1 := HX1b.out
  refine wp_region_held_drew (S := fun W => Blk W w.heap.size 27 #[vn, vl, vr, vb] ∧ Blk W (w.heap.size + 1) 30 #[v1, v2, .int .i64 bg]) (by kernel_rfl) (⟨hx0, hx1⟩) (fun hHeld => ?_)
  refine held_load 0 (some 5) 27 (.tmp 2) (by rfl) (by kernel_rfl) (by kernel_rfl) (by kernel_rfl) (w.heap.size) 27 #[vn, vl, vr, vb] (fun _ _ _ h => h) (by rfl) (fun _ h => h.1) _ Try.underlying27 rfl (by kernel_rfl) (by assumption) ?_
  try simp only [Act.put, List.setIfInBounds_toArray, List.set_cons_zero, List.set_cons_succ]
  refine held_load 1 (some 6) 30 (.tmp 3) (by rfl) (by kernel_rfl) (by kernel_rfl) (by kernel_rfl) (w.heap.size + 1) 30 #[v1, v2, .int .i64 bg] (fun _ _ _ h => h) (by rfl) (fun _ h => h.2) _ Try.underlying30 rfl (by kernel_rfl) (by assumption) ?_
  try simp only [Act.put, List.setIfInBounds_toArray, List.set_cons_zero, List.set_cons_succ]
  refine held_load 2 (some 7) 30 (.tmp 3) (by rfl) (by kernel_rfl) (by kernel_rfl) (by kernel_rfl) (w.heap.size + 1) 30 #[v1, v2, .int .i64 bg] (fun _ _ _ h => h) (by rfl) (fun _ h => h.2) _ Try.underlying30 rfl (by kernel_rfl) (by assumption) ?_
  try simp only [Act.put, List.setIfInBounds_toArray, List.set_cons_zero, List.set_cons_succ]
  refine held_call 3 (some 8) 50 [(.tmp 7)] #[30] #[.agg #[v1, v2, .int .i64 bg]] (by rfl) (by rfl) (by kernel_rfl) Try.func50 (by rfl) (by rfl) ?_
  refine (HC2.out _ HSvd.out).mono ?_
  rintro e w1 ⟨vd, rfl, ho1, hb1⟩
  have hbb1 : Below wb.heap.size wb w1 := (Below.refl wb.heap.size wb).drew.trans hb1
  have HDv := Lib.hid ho1.rowV
  have HB1 := Lib.hid (HBb.out.trans (hbb1.mono hszb))
  have HW1 := Lib.hid (HWb.out.trans (hbb1.mono HWb.out.size))
  have hsz1 : wb.heap.size ≤ w1.heap.size := Nat.le_trans hszb hbb1.size
  have HX01 := Lib.hid (HX0b.out.below hbb1 (Nat.lt_of_lt_of_le hxx0 hszb))
  have HX11 := Lib.hid (HX1b.out.below hbb1 (Nat.lt_of_lt_of_le hxx1 hszb))
  have HM1 := Lib.hid (HMb.out.now hbb1)
  have HRv1 := Lib.hid (HRvb.out.now hbb1)
  have HSv1 := Lib.hid (HSvb.out.now hbb1)
  have hH1 : (fun W => Blk W w.heap.size 27 #[vn, vl, vr, vb] ∧ Blk W (w.heap.size + 1) 30 #[v1, v2, .int .i64 bg]) w1 := ⟨HX01.out, HX11.out⟩
  refine ⟨_, rfl, hH1, ?_⟩
  clear hb1 hbb1 ho1
  try simp only [Act.put, List.setIfInBounds_toArray, List.set_cons_zero, List.set_cons_succ]
  refine held_call 4 (some 9) 48 [(.tmp 5), (.tmp 6), (.tmp 8)] #[27, 30, 25] #[.agg #[vn, vl, vr, vb], .agg #[v1, v2, .int .i64 bg], vd] (by rfl) (by rfl) (by kernel_rfl) Try.func48 (by rfl) (by rfl) ?_
  refine (HC.out vd _ _ HM1.out HRv1.out HDv.out).mono ?_
  rintro e w2 ⟨vo, rfl, ho2, hb2⟩
  have HO2 := Lib.hid ho2
  have hhs1 : w.heap.size ≤ w1.heap.size := HW1.out.size
  have HB2 := Lib.hid (HB1.out.trans (hb2.mono hsz1))
  have HW2 := Lib.hid (HW1.out.trans (hb2.mono HW1.out.size))
  have hsz2 : wb.heap.size ≤ w2.heap.size := Nat.le_trans hsz1 hb2.size
  have HX02 := Lib.hid (HX01.out.below hb2 (Nat.lt_of_lt_of_le hxx0 hsz1))
  have HX12 := Lib.hid (HX11.out.below hb2 (Nat.lt_of_lt_of_le hxx1 hsz1))
  have HM2 := Lib.hid (HM1.out.now hb2)
  have HRv2 := Lib.hid (HRv1.out.now hb2)
  have HSv2 := Lib.hid (HSv1.out.now hb2)
  have hH2 : (fun W => Blk W w.heap.size 27 #[vn, vl, vr, vb] ∧ Blk W (w.heap.size + 1) 30 #[v1, v2, .int .i64 bg]) w2 := ⟨HX02.out, HX12.out⟩
  refine ⟨_, rfl, hH2, ?_⟩
  clear hb2 ho2
  try simp only [Act.put, List.setIfInBounds_toArray, List.set_cons_zero, List.set_cons_succ]
  refine held_run 5 (some 4) (.assign (.tmp 9)) ?v1_1_7 (by rfl) (by kernel_rfl) (by kernel_rfl) (by kernel_rfl) (fun _ _ _ h => h) (fun o ho w hS => ?y1_1_7) (by assumption) ?r1_1_7
  case y1_1_7 => (try dsimp only at hS); unfold execOp; simp only [ho]; go_simp; try with_reducible rfl
  try simp only [Act.put, List.setIfInBounds_toArray, List.set_cons_zero, List.set_cons_succ]
  refine wpAnyH_done (by kernel_rfl) ?_ _
  go_wp2_with fail
  go_ret
  exact ⟨_, rfl, HO2.out.mono hhs1, HW2.out⟩

set_option maxRecDepth 100000 in
set_option maxHeartbeats 4000000 in
theorem done_any (v1 v2 : Value) (bg : Int) (runs : List Int) (sw : List Sw) (w : World) (hr1 : RowV w w.heap.size v1 runs) (hr2 : StrV Sw.cells 4 w w.heap.size v2 sw) (hlen2 : sw.length ≤ 1000) :
    Calls Try.prog 24 #[.agg #[v1, v2, .int .i64 bg]] w fun e w' => e = .returned (.bool (doneB runs sw)) ∧ Below w.heap.size w w' := by
  obtain ⟨A, n, c, rfl, HL, h3, h4, hr⟩ := hr1.nam
  have HR := Lib.hid hr
  have HSv := Lib.hid hr2
  have hn : n ≤ maxLen := Nat.le_trans h3 h4
  unfold maxLen at hn
  have HC2 : Hid (∀ (W : World), StrV Sw.cells 4 W W.heap.size v2 sw → Calls Try.prog 50 #[.agg #[.slice A n c, v2, .int .i64 bg]] W fun e w' => ∃ v, e = .returned v ∧ OwnI w' W.heap.size v (sw.map Sw.run) ∧ Below W.heap.size W w') := fun W q => swept_any _ v2 bg sw W q hlen2
  have hdl : (sw.map Sw.run).length ≤ 1000 := by rw [List.length_map]; exact hlen2
  clear hr1 hr2 hr h3 h4
  unfold doneB
  generalize sw.map Sw.run = done at *
  obtain ⟨r, hr⟩ : ∃ r, (runs.all fun r => done.contains r) = r := ⟨_, rfl⟩
  rw [hr]
  have HF0 := Lib.hid hr
  clear hr
  go_enter Try.func24, Try.ntmps24
  go_wp2_with fail
  have HBwb := (Blk.new w 30 #[.slice A n c, v2, .int .i64 bg])
  have HLwb := (below_new w (.cells #[.slice A n c, v2, .int .i64 bg] 30))
  have hswb : (w.alloc (.cells #[.slice A n c, v2, .int .i64 bg] 30)).heap.size = w.heap.size + 1 := by simp
  generalize w.alloc (.cells #[.slice A n c, v2, .int .i64 bg] 30) = wb at HBwb HLwb hswb ⊢
  replace HBwb := Lib.hid HBwb
  replace HLwb := Lib.hid HLwb
  have hlwb : w.heap.size < wb.heap.size := by omega
  replace hswb := Lib.hid hswb
  have HWb := Lib.hid (HLwb.out)
  have hl0 : w.heap.size ≤ wb.heap.size := HWb.out.size
  have HBb : Hid (Below wb.heap.size wb wb) := hide (Below.refl _ _)
  have hszb : wb.heap.size ≤ wb.heap.size := Nat.le_refl _
  have HX0b : Hid (Blk wb w.heap.size 30 #[.slice A n c, v2, .int .i64 bg]) := hide HBwb.out
  have hxx0 : w.heap.size < wb.heap.size := HX0b.out.lt
  clear HBwb HLwb hswb hlwb
  have HRb := Lib.hid (HR.out.now HWb.out)
  have HSvb := Lib.hid (HSv.out.now HWb.out)
  go_wp2_with
    (first
     | (refine wpList_load_g 30 (.tmp 1) rfl rfl w.heap.size rfl _ _ HX0b.out _ Try.underlying30 rfl (by kernel_rfl) ?_))
  with_reducible refine (HC2.out _ HSvb.out).mono ?_
  rintro e w1 ⟨vd, rfl, ho1, hb1⟩
  obtain ⟨Ad, nd, cd, rfl, HLd, hd1, hd2, hdr⟩ := ho1.nam
  have HD1 := Lib.hid hdr
  have hnd : nd ≤ maxLen := Nat.le_trans hd1 hd2
  have HB1 := Lib.hid (HBb.out.trans (hb1.mono hszb))
  have HW1 := Lib.hid (HWb.out.trans (hb1.mono HWb.out.size))
  have hsz1 : wb.heap.size ≤ w1.heap.size := Nat.le_trans hszb hb1.size
  have HX01 := Lib.hid (HX0b.out.below hb1 (Nat.lt_of_lt_of_le hxx0 hszb))
  have HR1 := Lib.hid (HRb.out.now hb1)
  have HSv1 := Lib.hid (HSvb.out.now hb1)
  clear hb1 ho1 hdr
  have s0 : w1.cell? ⟨w.heap.size, 0, none⟩ = some (.slice A n c) := HX01.out.cell 0
  have s1 : w1.cell? ⟨w.heap.size, 1, none⟩ = some (v2) := HX01.out.cell 1
  have s2 : w1.cell? ⟨w.heap.size, 2, none⟩ = some (.int .i64 bg) := HX01.out.cell 2
  go_wp2_with fail
  clear s0 s1 s2
  go_loopw [11] (fun i wr => ∃ k : Nat, k ≤ n ∧ i = .int .i64 k ∧ r = ((runs.drop k).all fun r => done.contains r) ∧ w1 = wr) (fun i _ => n - (intOf i).toNat)
  case atStart => exact ⟨0, by omega, rfl, HF0.out.symm, rfl⟩
  case round =>
    obtain ⟨k, hk, rfl, hF, rfl⟩ := hrel
    have HF := Lib.hid hF
    clear hF
    by_cases hlt : k < n
    · obtain ⟨ad, rfl, _, hc⟩ := HR1.out.int hlt
      have HS := Lib.hid (HF.out.trans (all_at _ runs k (by rw [HL.out]; exact hlt)))
      generalize runs.getD k 0 = x at *
      cases hd : done.contains x with
      | true =>
        have HF1 : Hid (r = ((runs.drop (k + 1)).all fun r => done.contains r)) := hide (HS.out.trans (by rw [hd]; rfl))
        go_wp2_with fail
        with_reducible refine (contains_any Ad nd cd _ done x true _ HD1.out hnd hd).mono ?_
        rintro e w' ⟨rfl, rfl⟩
        go_wp2_with fail
        go_roundw
        case rel => exact ⟨k + 1, by omega, by go_num, HF1.out, by first | rfl | trivial⟩
        case measure => simp [intOf]; omega
      | false =>
        have HF1 : Hid (r = false) := hide (HS.out.trans (by rw [hd]; rfl))
        go_wp2_with fail
        with_reducible refine (contains_any Ad nd cd _ done x false _ HD1.out hnd hd).mono ?_
        rintro e w' ⟨rfl, rfl⟩
        go_wp2_with fail
        go_ret
        exact ⟨ret_b HF1.out.symm, HW1.out⟩
    · obtain rfl : k = n := by omega
      have HF1 : Hid (r = true) := by have h := HF.out; rw [List.drop_of_length_le (by rw [HL.out]; exact Nat.le_refl _)] at h; exact hide h
      go_wp2_with fail
      go_ret
      exact ⟨ret_b HF1.out.symm, HW1.out⟩

theorem found_snoc (sw : List Sw) (k : Nat) (h : k < sw.length) : foundN (sw.take (k + 1)) = foundN (sw.take k) + (sw.getD k sw0).fnd := by
  rw [gen_take sw sw0 k h]
  unfold foundN
  rw [List.map_append, List.sum_append]
  simp
theorem found_bd {sw : List Sw} (h : ∀ s ∈ sw, 0 ≤ s.fnd ∧ s.fnd ≤ 1000) (k : Nat) : 0 ≤ foundN (sw.take k) ∧ foundN (sw.take k) ≤ 1000 * k := by
  induction k with
  | zero => simp [foundN]
  | succ k ih =>
    rcases Nat.lt_or_ge k sw.length with hk | hk
    · rw [found_snoc sw k hk]
      have hg : sw.getD k sw0 = sw[k] := by simp [List.getElem?_eq_getElem hk]
      have := h _ (List.getElem_mem hk)
      rw [hg]
      omega
    · rw [List.take_of_length_le (by omega), ← List.take_of_length_le (l := sw) (i := k) hk]
      omega
set_option maxRecDepth 100000 in
set_option maxHeartbeats 4000000 in
theorem found_any (v1 v2 : Value) (bg : Int) (sw : List Sw) (w : World) (hr2 : StrV Sw.cells 4 w w.heap.size v2 sw) (hlen2 : sw.length ≤ 1000) (hbd : ∀ s ∈ sw, 0 ≤ s.fnd ∧ s.fnd ≤ 1000) :
    Calls Try.prog 26 #[.agg #[v1, v2, .int .i64 bg]] w fun e w' => e = .returned (.int .i64 (foundN sw)) ∧ Below w.heap.size w w' := by
  obtain ⟨A, n, c, rfl, HL, h3, h4, hr⟩ := hr2.nam
  have HR := Lib.hid hr
  have hn : n ≤ 1000 := by rw [← HL.out]; exact hlen2
  have HBd := Lib.hid (found_bd hbd)
  clear hr2 hr h3 h4 hlen2 hbd
  go_enter Try.func26, Try.ntmps26
  go_wp2_with fail
  have HBwb := (Blk.new w 30 #[v1, .slice A n c, .int .i64 bg])
  have HLwb := (below_new w (.cells #[v1, .slice A n c, .int .i64 bg] 30))
  have hswb : (w.alloc (.cells #[v1, .slice A n c, .int .i64 bg] 30)).heap.size = w.heap.size + 1 := by simp
  generalize w.alloc (.cells #[v1, .slice A n c, .int .i64 bg] 30) = wb at HBwb HLwb hswb ⊢
  replace HBwb := Lib.hid HBwb
  replace HLwb := Lib.hid HLwb
  have hlwb : w.heap.size < wb.heap.size := by omega
  replace hswb := Lib.hid hswb
  have HWb := Lib.hid (HLwb.out)
  have hl0 : w.heap.size ≤ wb.heap.size := HWb.out.size
  have HBb : Hid (Below wb.heap.size wb wb) := hide (Below.refl _ _)
  have hszb : wb.heap.size ≤ wb.heap.size := Nat.le_refl _
  have HX0b : Hid (Blk wb w.heap.size 30 #[v1, .slice A n c, .int .i64 bg]) := hide HBwb.out
  have hxx0 : w.heap.size < wb.heap.size := HX0b.out.lt
  clear HBwb HLwb hswb hlwb
  have HRb := Lib.hid (HR.out.now HWb.out)
  go_loopw [3, 9] (fun v i wr => ∃ k : Nat, k ≤ n ∧ i = .int .i64 k ∧ v = .int .i64 (foundN (sw.take k)) ∧ Below wb.heap.size wb wr) (fun _ i _ => n - (intOf i).toNat)
  case atStart => exact ⟨0, by omega, rfl, rfl, Below.refl _ _⟩
  case round =>
    obtain ⟨k, hk, rfl, rfl, hbr⟩ := hrel
    obtain ⟨wo, rfl⟩ : ∃ wo : World, wo = wr := ⟨_, rfl⟩
    have HBo := Lib.hid (HBb.out.trans (hbr.mono hszb))
    have HWo := Lib.hid (HWb.out.trans (hbr.mono HWb.out.size))
    have hszo : wb.heap.size ≤ wo.heap.size := Nat.le_trans hszb hbr.size
    have HX0o := Lib.hid (HX0b.out.below hbr (Nat.lt_of_lt_of_le hxx0 hszb))
    have HRo := Lib.hid (HRb.out.now hbr)
    clear hbr
    by_cases hlt : k < n
    · obtain ⟨ad, rfl, hab, hcs⟩ := strs_at HRo.out (fun _ => rfl) HL.out hlt sw0
      have HS := Lib.hid (found_snoc sw k (by rw [HL.out]; exact hlt))
      have b1 := HBd.out k
      have b2 := HBd.out (k + 1)
      rw [HS.out] at b2
      generalize sw.getD k sw0 = q at *
      obtain ⟨run, byy, att, fnd⟩ := q
      simp only at HS b2
      have HCs : Hid (∀ j u, ([.int .i64 run, .int .i64 byy, .int .i64 att, .int .i64 fnd] : List Value)[j]? = some u → wo.cell? ((ad.add (k * 4)).add j) = some u) := hcs
      clear hcs
      generalize foundN (sw.take k) = v at *
      go_wp2_with
        (first
         | (refine wpList_load_at 39 (.tmp 11) rfl rfl (ad.add (k * 4)) rfl [.int .i64 run, .int .i64 byy, .int .i64 att, .int .i64 fnd] HCs.out _ Try.underlying39 rfl (by kernel_rfl) ?_)
         | (refine wpList_store_blk rfl 39 (.tmp 5) (.tmp 12) rfl wo.heap.size #[.int .i64 run, .int .i64 byy, .int .i64 att, .int .i64 fnd] rfl rfl _ _ (Blk.new wo 39 #[.int .i64 0, .int .i64 0, .int .i64 0, .int .i64 0]) (by kernel_rfl) rfl (by simp [Value.oneCell']) ?_
            intro w1 hx1 hon1
            have hb1 := hon1.below (below_new wo (.cells #[.int .i64 0, .int .i64 0, .int .i64 0, .int .i64 0] 39)) (Nat.le_refl _)
            have HB1 := Lib.hid (HBo.out.trans (hb1.mono hszo))
            have e3 : w1.cell? ⟨wo.heap.size, 3, none⟩ = some (.int .i64 fnd) := hx1.cell 3
            clear hx1 hon1 hb1))
      go_roundw
      case rel => exact ⟨k + 1, by omega, by go_num, by rw [HS.out], HB1.out⟩
      case measure => simp [intOf]; omega
    · obtain rfl : k = n := by omega
      rw [List.take_of_length_le (by rw [HL.out]; exact Nat.le_refl _)]
      go_wp2_with fail
      go_ret
      exact ⟨rfl, HWo.out⟩

set_option maxRecDepth 100000 in
set_option maxHeartbeats 4000000 in
theorem rfound_any (v1 v2 : Value) (bg : Int) (sw : List Sw) (w : World) (hr2 : StrV Sw.cells 4 w w.heap.size v2 sw) (hlen2 : sw.length ≤ 1000) (hbd : ∀ s ∈ sw, 0 ≤ s.fnd ∧ s.fnd ≤ 1000) :
    Calls Try.prog 27 #[.agg #[v1, v2, .int .i64 bg]] w fun e w' => e = .returned (.int .i64 (foundN sw)) ∧ Below w.heap.size w w' := by
  obtain ⟨A, n, c, rfl, HL, h3, h4, hr⟩ := hr2.nam
  have HR := Lib.hid hr
  have hn : n ≤ 1000 := by rw [← HL.out]; exact hlen2
  have HBd := Lib.hid (found_bd hbd)
  clear hr2 hr h3 h4 hlen2 hbd
  go_enter Try.func27, Try.ntmps27
  go_wp2_with fail
  have HBwb := (Blk.new w 30 #[v1, .slice A n c, .int .i64 bg])
  have HLwb := (below_new w (.cells #[v1, .slice A n c, .int .i64 bg] 30))
  have hswb : (w.alloc (.cells #[v1, .slice A n c, .int .i64 bg] 30)).heap.size = w.heap.size + 1 := by simp
  generalize w.alloc (.cells #[v1, .slice A n c, .int .i64 bg] 30) = wb at HBwb HLwb hswb ⊢
  replace HBwb := Lib.hid HBwb
  replace HLwb := Lib.hid HLwb
  have hlwb : w.heap.size < wb.heap.size := by omega
  replace hswb := Lib.hid hswb
  have HWb := Lib.hid (HLwb.out)
  have hl0 : w.heap.size ≤ wb.heap.size := HWb.out.size
  have HBb : Hid (Below wb.heap.size wb wb) := hide (Below.refl _ _)
  have hszb : wb.heap.size ≤ wb.heap.size := Nat.le_refl _
  have HX0b : Hid (Blk wb w.heap.size 30 #[v1, .slice A n c, .int .i64 bg]) := hide HBwb.out
  have hxx0 : w.heap.size < wb.heap.size := HX0b.out.lt
  clear HBwb HLwb hswb hlwb
  have HRb := Lib.hid (HR.out.now HWb.out)
  go_loopw [3, 4] (fun v i wr => ∃ k : Nat, k ≤ n ∧ i = .int .i64 k ∧ v = .int .i64 (foundN (sw.take k)) ∧ Below wb.heap.size wb wr) (fun _ i _ => n - (intOf i).toNat)
  case atStart => exact ⟨0, by omega, rfl, rfl, Below.refl _ _⟩
  case round =>
    obtain ⟨k, hk, rfl, rfl, hbr⟩ := hrel
    obtain ⟨wo, rfl⟩ : ∃ wo : World, wo = wr := ⟨_, rfl⟩
    have HBo := Lib.hid (HBb.out.trans (hbr.mono hszb))
    have HWo := Lib.hid (HWb.out.trans (hbr.mono HWb.out.size))
    have hszo : wb.heap.size ≤ wo.heap.size := Nat.le_trans hszb hbr.size
    have HX0o := Lib.hid (HX0b.out.below hbr (Nat.lt_of_lt_of_le hxx0 hszb))
    have HRo := Lib.hid (HRb.out.now hbr)
    clear hbr
    have s0 : wo.cell? ⟨w.heap.size, 0, none⟩ = some (v1) := HX0o.out.cell 0
    have s1 : wo.cell? ⟨w.heap.size, 1, none⟩ = some (.slice A n c) := HX0o.out.cell 1
    have s2 : wo.cell? ⟨w.heap.size, 2, none⟩ = some (.int .i64 bg) := HX0o.out.cell 2
    by_cases hlt : k < n
    · obtain ⟨ad, rfl, hab, hcs⟩ := strs_at HRo.out (fun _ => rfl) HL.out hlt sw0
      have HS := Lib.hid (found_snoc sw k (by rw [HL.out]; exact hlt))
      have b1 := HBd.out k
      have b2 := HBd.out (k + 1)
      rw [HS.out] at b2
      generalize sw.getD k sw0 = q at *
      obtain ⟨run, byy, att, fnd⟩ := q
      simp only at HS b2
      have HCs : Hid (∀ j u, ([.int .i64 run, .int .i64 byy, .int .i64 att, .int .i64 fnd] : List Value)[j]? = some u → wo.cell? ((ad.add (k * 4)).add j) = some u) := hcs
      clear hcs
      generalize foundN (sw.take k) = v at *
      have f3 : wo.cell? ⟨(ad.add (k * 4)).block, (ad.add (k * 4)).off + 3, none⟩ = some (.int .i64 fnd) := HCs.out 3 _ rfl
      go_wp2_with fail
      go_roundw
      case rel => exact ⟨k + 1, by omega, by go_num, by rw [HS.out], HBo.out⟩
      case measure => simp [intOf]; omega
    · obtain rfl : k = n := by omega
      rw [List.take_of_length_le (by rw [HL.out]; exact Nat.le_refl _)]
      go_wp2_with fail
      go_ret
      exact ⟨rfl, HWo.out⟩
end Go.Proofs.Yticoeibccdplaaa
