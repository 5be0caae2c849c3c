/-
  The reference's Order, Next and Done, and comparisons, of chapter 56, walked.
-/
import Derived.Test.YticoeibccdplaaaSwpI
namespace Go.Proofs.Yticoeibccdplaaa
open Go.RowKit

theorem ei_sw : EInfo Try.prog 28 39 4 32 := EInfo.mk' Try.underlying28 (z := .agg #[.int .i64 0, .int .i64 0, .int .i64 0, .int .i64 0]) (by kernel_rfl) rfl (by omega)
def mkSw (x : Int) : Sw := ⟨x, 0, 0, 0⟩
theorem mkSw_run (l : List Int) : (l.map mkSw).map Sw.run = l := by
  induction l with
  | nil => rfl
  | cons x l ih => simp only [List.map_cons, ih]; rfl
set_option maxRecDepth 100000 in
set_option maxHeartbeats 4000000 in
theorem rnextF_any (vn vl vr vb v1 v2 : Value) (bg : Int) (rs : List Rn) (runs : List Int) (sw : List Sw) (w : World) (hm : StrV Rn.cells 7 w w.heap.size vr rs) (hr1 : RowV w w.heap.size v1 runs) (hr2 : StrV Sw.cells 4 w w.heap.size v2 sw) (hlen : runs.length ≤ 1000) :
    Calls Try.prog 20 #[.agg #[vn, vl, vr, vb], .agg #[v1, v2, .int .i64 bg]] w fun e w' => ∃ v, e = .returned v ∧ OwnI w' w.heap.size v (readyL (befR rs) runs (sw.map Sw.run)) ∧ Below w.heap.size w w' := by
  have HM := Lib.hid hm
  have HRv := Lib.hid hr1
  have HSv := Lib.hid hr2
  have HC : Hid (∀ (W : World), StrV Rn.cells 7 W W.heap.size vr rs → RowV W W.heap.size v1 runs → StrV Sw.cells 4 W W.heap.size v2 sw → Calls Try.prog 49 #[.agg #[vn, vl, vr, vb], v1, v2] W fun e w' => ∃ v, e = .returned v ∧ OwnI w' W.heap.size v (readyL (befR rs) runs (sw.map Sw.run)) ∧ Below W.heap.size W w') := fun W q1 q2 q3 => rnext_any vn vl vr vb v1 v2 rs runs sw W q1 q2 q3 hlen
  clear hm hr1 hr2
  go_enter Try.func20, Try.ntmps20
  go_wp2_with fail
  have HBwz0 := (Blk.new w 27 #[vn, vl, vr, vb])
  have HLwz0 := (below_new w (.cells #[vn, vl, vr, vb] 27))
  have hswz0 : (w.alloc (.cells #[vn, vl, vr, vb] 27)).heap.size = w.heap.size + 1 := by simp
  generalize w.alloc (.cells #[vn, vl, vr, vb] 27) = wz0 at HBwz0 HLwz0 hswz0 ⊢
  replace HBwz0 := Lib.hid HBwz0
  replace HLwz0 := Lib.hid HLwz0
  have hlwz0 : w.heap.size < wz0.heap.size := by omega
  replace hswz0 := Lib.hid hswz0
  have HBwb := (Blk.new wz0 30 #[v1, v2, .int .i64 bg])
  have HLwb := (below_new wz0 (.cells #[v1, v2, .int .i64 bg] 30))
  have hswb : (wz0.alloc (.cells #[v1, v2, .int .i64 bg] 30)).heap.size = wz0.heap.size + 1 := by simp
  generalize wz0.alloc (.cells #[v1, v2, .int .i64 bg] 30) = wb at HBwb HLwb hswb ⊢
  replace HBwb := Lib.hid HBwb
  replace HLwb := Lib.hid HLwb
  have hlwb : wz0.heap.size < wb.heap.size := by omega
  replace hswb := Lib.hid hswb
  have HQ1 := Lib.hid (HLwz0.out.trans (HLwb.out.mono HLwz0.out.size))
  have HWb := Lib.hid (HQ1.out)
  have hl0 : w.heap.size ≤ wb.heap.size := HWb.out.size
  have HBb : Hid (Below wb.heap.size wb wb) := hide (Below.refl _ _)
  have hszb : wb.heap.size ≤ wb.heap.size := Nat.le_refl _
  have HZ0_1 := Lib.hid (HBwz0.out.below HLwb.out hlwz0)
  have hz0_1 : w.heap.size < wb.heap.size := HZ0_1.out.lt
  have HX0b : Hid (Blk wb w.heap.size 27 #[vn, vl, vr, vb]) := hide HZ0_1.out
  have hxx0 : w.heap.size < wb.heap.size := HX0b.out.lt
  have HX1b : Hid (Blk wb (w.heap.size + 1) 30 #[v1, v2, .int .i64 bg]) := hide (by have h := HBwb.out; rw [show wz0.heap.size = w.heap.size + 1 from by have := hswz0.out; omega] at h; exact h)
  have hxx1 : (w.heap.size + 1) < wb.heap.size := HX1b.out.lt
  clear HBwz0 HLwz0 hswz0 hlwz0
  clear HBwb HLwb hswb hlwb
  have HMb := Lib.hid (HM.out.now HWb.out)
  have HRvb := Lib.hid (HRv.out.now HWb.out)
  have HSvb := Lib.hid (HSv.out.now HWb.out)
  have s0 : wb.cell? ⟨w.heap.size + 1, 0, none⟩ = some (v1) := HX1b.out.cell 0
  have s1 : wb.cell? ⟨w.heap.size + 1, 1, none⟩ = some (v2) := HX1b.out.cell 1
  have s2 : wb.cell? ⟨w.heap.size + 1, 2, none⟩ = some (.int .i64 bg) := HX1b.out.cell 2
  go_wp2_with
    (first
     | (refine wpList_load_g 27 (.tmp 2) rfl rfl w.heap.size rfl _ _ HX0b.out _ Try.underlying27 rfl (by kernel_rfl) ?_))
  with_reducible refine (HC.out _ HMb.out HRvb.out HSvb.out).mono ?_
  rintro e w1 ⟨vo, rfl, ho, hb1⟩
  have HO := Lib.hid ho
  have HB1 := Lib.hid (HBb.out.trans (hb1.mono hszb))
  have HW1 := Lib.hid (HWb.out.trans (hb1.mono HWb.out.size))
  have hsz1 : wb.heap.size ≤ w1.heap.size := Nat.le_trans hszb hb1.size
  have HX01 := Lib.hid (HX0b.out.below hb1 (Nat.lt_of_lt_of_le hxx0 hszb))
  have HX11 := Lib.hid (HX1b.out.below hb1 (Nat.lt_of_lt_of_le hxx1 hszb))
  have HM1 := Lib.hid (HMb.out.now hb1)
  have HRv1 := Lib.hid (HRvb.out.now hb1)
  have HSv1 := Lib.hid (HSvb.out.now hb1)
  clear hb1 ho
  go_wp2_with fail
  go_ret
  exact ⟨_, rfl, HO.out.mono hl0, HW1.out⟩

set_option maxRecDepth 100000 in
set_option maxHeartbeats 4000000 in
theorem rorder_any (vn vl vr vb v1 v2 : Value) (bg : Int) (rs : List Rn) (runs : List Int) (w : World) (hm : StrV Rn.cells 7 w w.heap.size vr rs) (hr1 : RowV w w.heap.size v1 runs) (hlen : runs.length ≤ 1000) :
    Calls Try.prog 18 #[.agg #[vn, vl, vr, vb], .agg #[v1, v2, .int .i64 bg]] w fun e w' => ∃ v, e = .returned v ∧ OwnI w' w.heap.size v (ordN (befR rs) runs) ∧ Below w.heap.size w w' := by
  obtain ⟨A1, n1, c1, rfl, HN, h11, h12, _⟩ := hr1.nam
  have HM := Lib.hid hm
  have HRv := Lib.hid hr1
  have HC : Hid (∀ (v2 : Value) (out : List Int) (W : World), StrV Rn.cells 7 W W.heap.size vr rs → RowV W W.heap.size (.slice A1 n1 c1) runs → StrV Sw.cells 4 W W.heap.size v2 (out.map mkSw) → Calls Try.prog 49 #[.agg #[vn, vl, vr, vb], .slice A1 n1 c1, v2] W fun e w' => ∃ v, e = .returned v ∧ OwnI w' W.heap.size v (readyL (befR rs) runs out) ∧ Below W.heap.size W w') := fun v2 out W q1 q2 q3 => by
    have h := rnext_any vn vl vr vb _ v2 rs runs (out.map mkSw) W q1 q2 q3 hlen
    rwa [mkSw_run] at h
  clear hm hr1 h11 h12
  generalize befR rs = bef at *
  rw [HN.out] at hlen
  obtain ⟨R, hR⟩ : ∃ R, ordN bef runs = R := ⟨_, rfl⟩
  rw [hR]
  have HF0 : Hid (ordGo bef runs (n1 - 0) [] = R) := hide (by rw [← hR, ordN, HN.out]; rfl)
  clear hR
  go_enter Try.func18, Try.ntmps18
  go_wp2_with fail
  have HBwz0 := (Blk.new w 27 #[vn, vl, vr, vb])
  have HLwz0 := (below_new w (.cells #[vn, vl, vr, vb] 27))
  have hswz0 : (w.alloc (.cells #[vn, vl, vr, vb] 27)).heap.size = w.heap.size + 1 := by simp
  generalize w.alloc (.cells #[vn, vl, vr, vb] 27) = wz0 at HBwz0 HLwz0 hswz0 ⊢
  replace HBwz0 := Lib.hid HBwz0
  replace HLwz0 := Lib.hid HLwz0
  have hlwz0 : w.heap.size < wz0.heap.size := by omega
  replace hswz0 := Lib.hid hswz0
  have HBwb := (Blk.new wz0 30 #[.slice A1 n1 c1, v2, .int .i64 bg])
  have HLwb := (below_new wz0 (.cells #[.slice A1 n1 c1, v2, .int .i64 bg] 30))
  have hswb : (wz0.alloc (.cells #[.slice A1 n1 c1, v2, .int .i64 bg] 30)).heap.size = wz0.heap.size + 1 := by simp
  generalize wz0.alloc (.cells #[.slice A1 n1 c1, v2, .int .i64 bg] 30) = wb at HBwb HLwb hswb ⊢
  replace HBwb := Lib.hid HBwb
  replace HLwb := Lib.hid HLwb
  have hlwb : wz0.heap.size < wb.heap.size := by omega
  replace hswb := Lib.hid hswb
  have HQ1 := Lib.hid (HLwz0.out.trans (HLwb.out.mono HLwz0.out.size))
  have HWb := Lib.hid (HQ1.out)
  have hl0 : w.heap.size ≤ wb.heap.size := HWb.out.size
  have HBb : Hid (Below wb.heap.size wb wb) := hide (Below.refl _ _)
  have hszb : wb.heap.size ≤ wb.heap.size := Nat.le_refl _
  have HZ0_1 := Lib.hid (HBwz0.out.below HLwb.out hlwz0)
  have hz0_1 : w.heap.size < wb.heap.size := HZ0_1.out.lt
  have HX0b : Hid (Blk wb w.heap.size 27 #[vn, vl, vr, vb]) := hide HZ0_1.out
  have hxx0 : w.heap.size < wb.heap.size := HX0b.out.lt
  have HX1b : Hid (Blk wb (w.heap.size + 1) 30 #[.slice A1 n1 c1, v2, .int .i64 bg]) := hide (by have h := HBwb.out; rw [show wz0.heap.size = w.heap.size + 1 from by have := hswz0.out; omega] at h; exact h)
  have hxx1 : (w.heap.size + 1) < wb.heap.size := HX1b.out.lt
  clear HBwz0 HLwz0 hswz0 hlwz0
  clear HBwb HLwb hswb hlwb
  have HMb := Lib.hid (HM.out.now HWb.out)
  have HRvb := Lib.hid (HRv.out.now HWb.out)
  go_loopw [5, 6, 7] (fun vo vl2 i wr => ∃ (k : Nat) (out : List Int), k ≤ n1 ∧ i = .int .i64 k ∧ out.length = k ∧ OwnI wr wb.heap.size vo out ∧ wr.ownsRow wb.heap.size 39 4 vl2 k ((out.map mkSw).map Sw.cells).flatten ∧ ordGo bef runs (n1 - k) out = R ∧ Below wb.heap.size wb wr) (fun _ _ i _ => n1 - (intOf i).toNat)
  case atStart => exact ⟨0, [], by omega, rfl, rfl, OwnI.nil _ _, World.ownsRow_nil _ _ _ _, HF0.out, Below.refl _ _⟩
  case round =>
    obtain ⟨k, out, hk, rfl, hol, hO, hS, hgo, hbr⟩ := hrel
    have HOw := Lib.hid hO
    have HSw := Lib.hid hS
    have HOl := Lib.hid hol
    obtain ⟨Av, nv, cv, rfl, HLv, hv1, hv2, _⟩ := hO.nam
    obtain ⟨As, cs, rfl, hs1, hs2, hsr⟩ := own_open hS
    have hnv : nv = k := by rw [← HLv.out]; exact hol
    subst hnv
    have HSr := Lib.hid (strV_of (f := Sw.cells) (l := out.map mkSw) hsr (by rw [List.length_map]; exact hol) hs1 hs2)
    have HGo := Lib.hid hgo
    clear hO hgo hS hsr hol
    obtain ⟨wo, rfl⟩ : ∃ wo : World, wo = wr := ⟨_, rfl⟩
    have HBo := Lib.hid (HBb.out.trans (hbr.mono hszb))
    have HWo := Lib.hid (HWb.out.trans (hbr.mono HWb.out.size))
    have hszo : wb.heap.size ≤ wo.heap.size := Nat.le_trans hszb hbr.size
    have HX0o := Lib.hid (HX0b.out.below hbr (Nat.lt_of_lt_of_le hxx0 hszb))
    have HX1o := Lib.hid (HX1b.out.below hbr (Nat.lt_of_lt_of_le hxx1 hszb))
    have HMo := Lib.hid (HMb.out.now hbr)
    have HRvo := Lib.hid (HRvb.out.now hbr)
    clear hbr
    have s0 : wo.cell? ⟨w.heap.size + 1, 0, none⟩ = some (.slice A1 n1 c1) := HX1o.out.cell 0
    have s1 : wo.cell? ⟨w.heap.size + 1, 1, none⟩ = some (v2) := HX1o.out.cell 1
    have s2 : wo.cell? ⟨w.heap.size + 1, 2, none⟩ = some (.int .i64 bg) := HX1o.out.cell 2
    by_cases hlt : nv < n1
    rotate_left
    · obtain rfl : nv = n1 := by omega
      have HZ : Hid (out = R) := by have h := HGo.out; rw [Nat.sub_self] at h; exact hide h
      go_wp2_with fail
      go_ret
      exact ⟨_, rfl, by rw [← HZ.out]; exact HOw.out.mono hl0, HWo.out⟩
    go_wp2_with
      (first
       | (refine wpList_load_g 27 (.tmp 2) rfl rfl w.heap.size rfl _ _ HX0o.out _ Try.underlying27 rfl (by kernel_rfl) ?_))
    with_reducible refine (HC.out _ out _ HMo.out HRvo.out HSr.out).mono ?_
    rintro e w1 ⟨vx, rfl, hx, hb1⟩
    have HO1 : Hid (OwnI w1 wb.heap.size (.slice Av nv cv) out) := hide (own_below HOw.out hb1 (Nat.le_refl _))
    have HS1 : Hid (w1.ownsRow wb.heap.size 39 4 (.slice As nv cs) nv ((out.map mkSw).map Sw.cells).flatten) := hide (own_below HSw.out hb1 (Nat.le_refl _))
    have HB1 := Lib.hid (HBo.out.trans (hb1.mono hszo))
    have HW1 := Lib.hid (HWo.out.trans (hb1.mono HWo.out.size))
    have hsz1 : wb.heap.size ≤ w1.heap.size := Nat.le_trans hszo hb1.size
    have HX01 := Lib.hid (HX0o.out.below hb1 (Nat.lt_of_lt_of_le hxx0 hszo))
    have HX11 := Lib.hid (HX1o.out.below hb1 (Nat.lt_of_lt_of_le hxx1 hszo))
    have HM1 := Lib.hid (HMo.out.now hb1)
    have HRv1 := Lib.hid (HRvo.out.now hb1)
    obtain ⟨Ax, nn, cx, rfl, HLx, hx1, hx2, hxr⟩ := hx.nam
    have HXr := Lib.hid hxr
    have HXo := Lib.hid hx
    clear hb1 hx hxr HSr s0 s1 s2
    generalize hnx : readyL bef runs out = nx at *
    cases nx with
    | nil =>
      have hz : nn = 0 := HLx.out.symm
      subst hz
      have HZ : Hid (out = R) := hide (by rw [← HGo.out, ord_stop hnx])
      go_wp2_with fail
      go_ret
      exact ⟨_, rfl, by rw [← HZ.out]; exact HO1.out.mono hl0, HW1.out⟩
    | cons x t =>
      obtain ⟨n', hn'⟩ : ∃ n', nn = n' + 1 := ⟨t.length, by rw [← HLx.out]; rfl⟩
      subst hn'
      obtain ⟨ad, rfl, hab, hc⟩ := HXr.out.int (show 0 < n' + 1 by omega)
      have hc0 : w1.cell? ad = some (.int .i64 x) := by have h := hc; simpa [Addr.add] using h
      have hge : wo.heap.size ≤ ad.block := (World.ownsRow.lt HXo.out ad.block rfl).1
      have HStep : Hid (ordGo bef runs (n1 - (nv + 1)) (out ++ [x]) = R) := hide (by
        rw [← HGo.out]
        obtain ⟨m, hm⟩ : ∃ m, n1 - nv = m + 1 := ⟨n1 - nv - 1, by omega⟩
        rw [hm, show n1 - (nv + 1) = m by omega, ordGo, hnx])
      clear hnx hc
      have dn : ((n' + 1 : Nat) : Int) ≠ 0 := by omega
      have dn2 : ((((n' + 1 : Nat) : Int) == 0) = false) := beq_eq_false_iff_ne.2 dn
      have dn3 : (0 : Int) < ((n' + 1 : Nat) : Int) := by omega
      go_wp2_with
        (first
         | (at_builtin
            refine wpList_app_lit ei_ints rfl (.tmp 25) (.tmp 29) rfl wb.heap.size (.slice Av nv cv) nv (out.map (Value.int .i64)) rfl (HO1.out.row HLv.out) 1 rfl rfl (by simp [Value.oneCell']) (by simp only [maxLen]; omega) (by omega) hsz1 ?_
            intro v2 w2 hown2 hb2 hg2 hat2
            have HO2 : Hid (OwnI w2 wb.heap.size v2 (out ++ [x])) := hide (OwnI.mk' hown2 (by rw [List.length_append, HLv.out]; rfl) (by simp))
            have HS2 : Hid (w2.ownsRow wb.heap.size 39 4 (.slice As nv cs) nv ((out.map mkSw).map Sw.cells).flatten) := hide ((HS1.out.alloc _).kept hg2 (own_ne HS1.out HO1.out (by decide)))
            have HB2 := Lib.hid (HB1.out.trans hb2)
            have hc2 : w2.cell? ad = some (.int .i64 x) := by
              have hg : w2.heap[ad.block]? = (w1.alloc (.cells #[.int .i64 x] 3)).heap[ad.block]? := hg2.block ad.block (by simp; omega) (fun e => by
                have h1 := (World.ownsRow.lt HOw.out _ e.symm).2
                omega)
              exact (World.cell?_of_block hg).trans ((World.cell?_alloc_lt _ _ _ hab).trans hc0)
            have hs2 := HB2.out.size
            clear hown2 hb2 hg2 hat2)
         | (at_builtin
            refine wpList_app_lit ei_sw rfl (.tmp 31) (.tmp 36) rfl wb.heap.size (.slice As nv cs) nv ((out.map mkSw).map Sw.cells).flatten rfl HS2.out 1 rfl rfl (by simp [Value.oneCell']) (by simp only [maxLen]; omega) (by omega) hs2 ?_
            intro v3 w3 hown3 hb3 hg3 hat3
            have HS3 : Hid (w3.ownsRow wb.heap.size 39 4 v3 (nv + 1) (((out ++ [x]).map mkSw).map Sw.cells).flatten) := hide (by
              have h := hown3
              simpa [mkSw] using h)
            have HO3 : Hid (OwnI w3 wb.heap.size v2 (out ++ [x])) := hide ((HO2.out.alloc _).kept hg3 (own_ne HO2.out HS2.out (by decide)))
            have HB3 := Lib.hid (HB2.out.trans hb3)
            clear hown3 hb3 hg3 hat3))
      go_roundw
      case rel => exact ⟨nv + 1, out ++ [x], by omega, by go_num, by rw [List.length_append, HLv.out]; rfl, HO3.out, HS3.out, HStep.out, HB3.out⟩
      case measure => simp [intOf]; omega
end Go.Proofs.Yticoeibccdplaaa
