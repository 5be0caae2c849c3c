/-
  Right of chapter 56, walked.
-/
import Derived.Test.YticoeibccdplaaaSwpD
namespace Go.Proofs.Yticoeibccdplaaa
open Go.RowKit

set_option maxRecDepth 100000 in
set_option maxHeartbeats 4000000 in
theorem sweptRight_any (vn vl vr vb v1 v2 : Value) (bg : Int) (rs : List Rn) (runs : List Int) (sw : List Sw) (w : World) (hm : StrV Rn.cells 7 w w.heap.size vr rs) (hr1 : RowV w w.heap.size v1 runs) (hr2 : StrV Sw.cells 4 w w.heap.size v2 sw) (hlen : runs.length ≤ 64) :
    Calls Try.prog 43 #[.agg #[vn, vl, vr, vb], .agg #[v1, v2, .int .i64 bg]] w fun e w' => e = .returned (.int .i64 (errF (chk3 (befP rs) runs bg sw) 0 sw.length)) ∧ Below w.heap.size w w' := by
  obtain ⟨A1, n1, c1, rfl, HL1, h11, h12, hr1'⟩ := hr1.nam
  have HRv := Lib.hid hr1
  obtain ⟨A, n, c, rfl, HL, h3, h4, hr⟩ := hr2.nam
  have HR1 := Lib.hid hr1'
  have HR := Lib.hid hr
  have HM := Lib.hid hm
  have hn : n ≤ maxLen := Nat.le_trans h3 h4
  have hn1 : n1 ≤ maxLen := Nat.le_trans h11 h12
  unfold maxLen at hn
  have HC : Hid (∀ (x : Int) (vd : Value) (done : List Int) (W : World), StrV Rn.cells 7 W W.heap.size vr rs → RowV W W.heap.size (.slice A1 n1 c1) runs → RowV W W.heap.size vd done → Calls Try.prog 67 #[.agg #[vn, vl, vr, vb], .agg #[.slice A1 n1 c1, .slice A n c, .int .i64 bg], vd, .int .i64 x] W fun e w' => e = .returned (.bool (possB (befP rs) runs done x)) ∧ Below W.heap.size W w') := fun x vd done W q1 q2 q3 => possible_any vn vl vr vb _ _ vd bg rs runs done x W q1 q2 q3
  have HLen : Hid (∀ k, k ≤ n → (∀ i, i < k → chk3 (befP rs) runs bg sw i = 0) → k ≤ 64) := fun k hk h => Nat.le_trans (chk3_len (by rw [HL.out]; exact hk) h) hlen
  clear hm hr1 hr1' hr2 hr hlen h3 h4 h11 h12
  generalize befP rs = bef at *
  rw [HL.out]
  obtain ⟨f, hf⟩ : ∃ f, chk3 bef runs bg sw = f := ⟨_, rfl⟩
  have HV : Hid (∀ k, f k = if runs.contains (sw.getD k sw0).run = false then 8
    else if ((sw.take k).map Sw.run).contains (sw.getD k sw0).run = true then 7
    else if ¬ InS bg (sw.getD k sw0) then 2
    else if (0 < k ∧ (sw.getD k sw0).att < (sw.getD (k - 1) sw0).att) ∨ possB bef runs ((sw.take k).map Sw.run) (sw.getD k sw0).run = false then 11 else 0) := fun k => by rw [← hf]; rfl
  rw [hf] at HLen ⊢
  clear hf
  obtain ⟨r, hr⟩ : ∃ r, errF f 0 n = r := ⟨_, rfl⟩
  rw [hr]
  have HF0 := Lib.hid hr
  clear hr
  go_enter Try.func43, Try.ntmps43
  go_wp2_with fail
  have HBwz0 := (Blk.new w 27 #[vn, vl, vr, vb])
  have HLwz0 := (below_new w (.cells #[vn, vl, vr, vb] 27))
  have hswz0 : (w.alloc (.cells #[vn, vl, vr, vb] 27)).heap.size = w.heap.size + 1 := by simp
  generalize w.alloc (.cells #[vn, vl, vr, vb] 27) = wz0 at HBwz0 HLwz0 hswz0 ⊢
  replace HBwz0 := Lib.hid HBwz0
  replace HLwz0 := Lib.hid HLwz0
  have hlwz0 : w.heap.size < wz0.heap.size := by omega
  replace hswz0 := Lib.hid hswz0
  have HBwb := (Blk.new wz0 30 #[.slice A1 n1 c1, .slice A n c, .int .i64 bg])
  have HLwb := (below_new wz0 (.cells #[.slice A1 n1 c1, .slice A n c, .int .i64 bg] 30))
  have hswb : (wz0.alloc (.cells #[.slice A1 n1 c1, .slice A n c, .int .i64 bg] 30)).heap.size = wz0.heap.size + 1 := by simp
  generalize wz0.alloc (.cells #[.slice A1 n1 c1, .slice A n c, .int .i64 bg] 30) = wb at HBwb HLwb hswb ⊢
  replace HBwb := Lib.hid HBwb
  replace HLwb := Lib.hid HLwb
  have hlwb : wz0.heap.size < wb.heap.size := by omega
  replace hswb := Lib.hid hswb
  have HQ1 := Lib.hid (HLwz0.out.trans (HLwb.out.mono HLwz0.out.size))
  have HWb := Lib.hid (HQ1.out)
  have hl0 : w.heap.size ≤ wb.heap.size := HWb.out.size
  have HBb : Hid (Below wb.heap.size wb wb) := hide (Below.refl _ _)
  have hszb : wb.heap.size ≤ wb.heap.size := Nat.le_refl _
  have HZ0_1 := Lib.hid (HBwz0.out.below HLwb.out hlwz0)
  have hz0_1 : w.heap.size < wb.heap.size := HZ0_1.out.lt
  have HX0b : Hid (Blk wb w.heap.size 27 #[vn, vl, vr, vb]) := hide HZ0_1.out
  have hxx0 : w.heap.size < wb.heap.size := HX0b.out.lt
  have HX1b : Hid (Blk wb (w.heap.size + 1) 30 #[.slice A1 n1 c1, .slice A n c, .int .i64 bg]) := hide (by have h := HBwb.out; rw [show wz0.heap.size = w.heap.size + 1 from by have := hswz0.out; omega] at h; exact h)
  have hxx1 : (w.heap.size + 1) < wb.heap.size := HX1b.out.lt
  clear HBwz0 HLwz0 hswz0 hlwz0
  clear HBwb HLwb hswb hlwb
  have HMb := Lib.hid (HM.out.now HWb.out)
  have HR1b := Lib.hid (HR1.out.now HWb.out)
  have HRb := Lib.hid (HR.out.now HWb.out)
  have HRvb := Lib.hid (HRv.out.now HWb.out)
  go_loopw [5, 11] (fun v i wr => ∃ k : Nat, k ≤ n ∧ i = .int .i64 k ∧ OwnI wr wb.heap.size v ((sw.take k).map Sw.run) ∧ r = errF f k (n - k) ∧ (∀ i, i < k → f i = 0) ∧ Below wb.heap.size wb wr) (fun _ i _ => n - (intOf i).toNat)
  case atStart => exact ⟨0, by omega, rfl, OwnI.nil _ _, HF0.out.symm, fun i hi => absurd hi (by omega), Below.refl _ _⟩
  case round =>
    obtain ⟨k, hk, rfl, hO, hF, hall, hbr⟩ := hrel
    have HOw := Lib.hid hO
    have HF := Lib.hid hF
    have HA := Lib.hid hall
    obtain ⟨Av, nv, cv, rfl, HLv, hv1, hv2, _⟩ := hO.nam
    have hnk : k ≤ 64 := HLen.out k hk hall
    have hnv : nv ≤ k := by rw [← HLv.out]; simp; omega
    clear hO hF hall
    obtain ⟨wo, rfl⟩ : ∃ wo : World, wo = wr := ⟨_, rfl⟩
    have HBo := Lib.hid (HBb.out.trans (hbr.mono hszb))
    have HWo := Lib.hid (HWb.out.trans (hbr.mono HWb.out.size))
    have hszo : wb.heap.size ≤ wo.heap.size := Nat.le_trans hszb hbr.size
    have HX0o := Lib.hid (HX0b.out.below hbr (Nat.lt_of_lt_of_le hxx0 hszb))
    have HX1o := Lib.hid (HX1b.out.below hbr (Nat.lt_of_lt_of_le hxx1 hszb))
    have HMo := Lib.hid (HMb.out.now hbr)
    have HR1o := Lib.hid (HR1b.out.now hbr)
    have HRo := Lib.hid (HRb.out.now hbr)
    have HRvo := Lib.hid (HRvb.out.now hbr)
    clear hbr
    by_cases hlt : k < n
    · obtain ⟨ad, rfl, hab, hcs⟩ := strs_at HRo.out (fun _ => rfl) HL.out hlt sw0
      have HTk := Lib.hid (gen_take sw sw0 k (by rw [HL.out]; exact hlt))
      have HTs : Hid ((sw.take (k + 1)).map Sw.run = (sw.take k).map Sw.run ++ [(sw.getD k sw0).run]) := hide (by rw [HTk.out, List.map_append]; rfl)
      have HVk := Lib.hid (HV.out k)
      have HYes : Hid (f k ≠ 0 → r = f k) := fun h => HF.out.trans (errF_yes hlt h)
      have HNo : Hid (f k = 0 → r = errF f (k + 1) (n - (k + 1)) ∧ ∀ i, i < k + 1 → f i = 0) := fun h => ⟨HF.out.trans (errF_no hlt h), fun i hi => by
        rcases Nat.lt_or_ge i k with h1 | h1
        · exact HA.out i h1
        · obtain rfl : i = k := by omega
          exact h⟩
      have HPrev : Hid (∀ k', k = k' + 1 → ∀ j u, (Sw.cells (sw.getD k' sw0))[j]? = some u → wo.cell? ((ad.add (k' * 4)).add j) = some u) := fun k' hk' j u hu => by
        obtain ⟨ad', had, _, hcs'⟩ := strs_at HRo.out (fun _ => rfl) HL.out (show k' < n by omega) sw0
        injection had with had
        subst had
        exact hcs' j u hu
      generalize sw.getD k sw0 = q at *
      obtain ⟨run, byy, att, fnd⟩ := q
      have HCs : Hid (∀ j u, ([.int .i64 run, .int .i64 byy, .int .i64 att, .int .i64 fnd] : List Value)[j]? = some u → wo.cell? ((ad.add (k * 4)).add j) = some u) := hcs
      generalize (sw.take k).map Sw.run = T at *
      clear hcs HTk
      obtain ⟨poss, hposs⟩ : ∃ x, possB bef runs T run = x := ⟨_, rfl⟩
      have HP := Lib.hid hposs
      obtain ⟨cr, hcr⟩ : ∃ x, runs.contains run = x := ⟨_, rfl⟩
      have HCr := Lib.hid hcr
      obtain ⟨ct, hct⟩ : ∃ x, T.contains run = x := ⟨_, rfl⟩
      have HCt := Lib.hid hct
      simp only at HVk HTs
      rw [hposs, hcr, hct] at HVk
      clear hposs hcr hct
      have HTv : Hid (T.length = nv) := HLv
      cases cr with
      | false =>
        have HZ : Hid (r = 8) := hide (by have h : f k = 8 := HVk.out; rw [HYes.out (by rw [h]; decide), h])
        go_wp2_with
          (first
           | (refine wpList_load_at 39 (.tmp 14) rfl rfl (ad.add (k * 4)) rfl [.int .i64 run, .int .i64 byy, .int .i64 att, .int .i64 fnd] HCs.out _ Try.underlying39 rfl (by kernel_rfl) ?_)
           | (refine wpList_store_blk rfl 39 (.tmp 7) (.tmp 15) rfl wo.heap.size #[.int .i64 run, .int .i64 byy, .int .i64 att, .int .i64 fnd] rfl rfl _ _ (Blk.new wo 39 #[.int .i64 0, .int .i64 0, .int .i64 0, .int .i64 0]) (by kernel_rfl) rfl (by simp [Value.oneCell']) ?_
              intro w1 hx1 hon1
              have hb1 := hon1.below (below_new wo (.cells #[.int .i64 0, .int .i64 0, .int .i64 0, .int .i64 0] 39)) (Nat.le_refl _)
              have HO1 : Hid (OwnI w1 wb.heap.size (.slice Av nv cv) T) := hide (own_below HOw.out hb1 (Nat.le_refl _))
              have HY1 := Lib.hid hx1
              have HWp := Lib.hid hb1
              have hly1 : wo.heap.size < w1.heap.size := hx1.lt
              have HB1 := Lib.hid (HBo.out.trans (hb1.mono hszo))
              have HW1 := Lib.hid (HWo.out.trans (hb1.mono HWo.out.size))
              have hsz1 : wb.heap.size ≤ w1.heap.size := Nat.le_trans hszo hb1.size
              have HX01 := Lib.hid (HX0o.out.below hb1 (Nat.lt_of_lt_of_le hxx0 hszo))
              have HX11 := Lib.hid (HX1o.out.below hb1 (Nat.lt_of_lt_of_le hxx1 hszo))
              have HM1 := Lib.hid (HMo.out.now hb1)
              have HR11 := Lib.hid (HR1o.out.now hb1)
              have HR1 := Lib.hid (HRo.out.now hb1)
              have HRv1 := Lib.hid (HRvo.out.now hb1)
              have e0 : w1.cell? ⟨wo.heap.size, 0, none⟩ = some (.int .i64 run) := HY1.out.cell 0
              have e1 : w1.cell? ⟨wo.heap.size, 1, none⟩ = some (.int .i64 byy) := HY1.out.cell 1
              have e2 : w1.cell? ⟨wo.heap.size, 2, none⟩ = some (.int .i64 att) := HY1.out.cell 2
              have e3 : w1.cell? ⟨wo.heap.size, 3, none⟩ = some (.int .i64 fnd) := HY1.out.cell 3
              have s0 : w1.cell? ⟨w.heap.size + 1, 0, none⟩ = some (.slice A1 n1 c1) := HX11.out.cell 0
              have s1 : w1.cell? ⟨w.heap.size + 1, 1, none⟩ = some (.slice (some ad) n c) := HX11.out.cell 1
              have s2 : w1.cell? ⟨w.heap.size + 1, 2, none⟩ = some (.int .i64 bg) := HX11.out.cell 2
              clear hx1 hon1 hb1))
        with_reducible refine (contains_any _ n1 c1 _ runs run false _ HR11.out hn1 HCr.out).mono ?_
        rintro e w' ⟨rfl, rfl⟩
        go_wp2_with fail
        go_ret
        exact ⟨ret_i HZ.out.symm, HW1.out⟩
      | true =>
        go_wp2_with
          (first
           | (refine wpList_load_at 39 (.tmp 14) rfl rfl (ad.add (k * 4)) rfl [.int .i64 run, .int .i64 byy, .int .i64 att, .int .i64 fnd] HCs.out _ Try.underlying39 rfl (by kernel_rfl) ?_)
           | (refine wpList_store_blk rfl 39 (.tmp 7) (.tmp 15) rfl wo.heap.size #[.int .i64 run, .int .i64 byy, .int .i64 att, .int .i64 fnd] rfl rfl _ _ (Blk.new wo 39 #[.int .i64 0, .int .i64 0, .int .i64 0, .int .i64 0]) (by kernel_rfl) rfl (by simp [Value.oneCell']) ?_
              intro w1 hx1 hon1
              have hb1 := hon1.below (below_new wo (.cells #[.int .i64 0, .int .i64 0, .int .i64 0, .int .i64 0] 39)) (Nat.le_refl _)
              have HO1 : Hid (OwnI w1 wb.heap.size (.slice Av nv cv) T) := hide (own_below HOw.out hb1 (Nat.le_refl _))
              have HY1 := Lib.hid hx1
              have HWp := Lib.hid hb1
              have hly1 : wo.heap.size < w1.heap.size := hx1.lt
              have HB1 := Lib.hid (HBo.out.trans (hb1.mono hszo))
              have HW1 := Lib.hid (HWo.out.trans (hb1.mono HWo.out.size))
              have hsz1 : wb.heap.size ≤ w1.heap.size := Nat.le_trans hszo hb1.size
              have HX01 := Lib.hid (HX0o.out.below hb1 (Nat.lt_of_lt_of_le hxx0 hszo))
              have HX11 := Lib.hid (HX1o.out.below hb1 (Nat.lt_of_lt_of_le hxx1 hszo))
              have HM1 := Lib.hid (HMo.out.now hb1)
              have HR11 := Lib.hid (HR1o.out.now hb1)
              have HR1 := Lib.hid (HRo.out.now hb1)
              have HRv1 := Lib.hid (HRvo.out.now hb1)
              have e0 : w1.cell? ⟨wo.heap.size, 0, none⟩ = some (.int .i64 run) := HY1.out.cell 0
              have e1 : w1.cell? ⟨wo.heap.size, 1, none⟩ = some (.int .i64 byy) := HY1.out.cell 1
              have e2 : w1.cell? ⟨wo.heap.size, 2, none⟩ = some (.int .i64 att) := HY1.out.cell 2
              have e3 : w1.cell? ⟨wo.heap.size, 3, none⟩ = some (.int .i64 fnd) := HY1.out.cell 3
              have s0 : w1.cell? ⟨w.heap.size + 1, 0, none⟩ = some (.slice A1 n1 c1) := HX11.out.cell 0
              have s1 : w1.cell? ⟨w.heap.size + 1, 1, none⟩ = some (.slice (some ad) n c) := HX11.out.cell 1
              have s2 : w1.cell? ⟨w.heap.size + 1, 2, none⟩ = some (.int .i64 bg) := HX11.out.cell 2
              clear hx1 hon1 hb1))
        with_reducible refine (contains_any _ n1 c1 _ runs run true _ HR11.out hn1 HCr.out).mono ?_
        rintro e w' ⟨rfl, rfl⟩
        have hdr : RowV w1 w1.heap.size (.slice Av nv cv) T := HO1.out.rowV
        have HDr := Lib.hid hdr
        clear hdr
        obtain ⟨hdi, hdn⟩ : Ints w1 w1.heap.size Av nv T ∧ nv ≤ maxLen := ⟨by obtain ⟨A', n', c', he, hl, h5, h6, h7⟩ := HDr.out.nam; injection he with e1 e2 e3; subst e1 e2; exact h7, by omega⟩
        have HDi := Lib.hid hdi
        clear hdi
        cases ct with
        | true =>
          have HZ : Hid (r = 7) := hide (by have h : f k = 7 := HVk.out; rw [HYes.out (by rw [h]; decide), h])
          go_wp2_with fail
          with_reducible refine (contains_any _ nv cv _ T run true _ HDi.out hdn HCt.out).mono ?_
          rintro e w' ⟨rfl, rfl⟩
          go_wp2_with fail
          go_ret
          exact ⟨ret_i HZ.out.symm, HW1.out⟩
        | false =>
          go_wp2_with fail
          with_reducible refine (contains_any _ nv cv _ T run false _ HDi.out hdn HCt.out).mono ?_
          rintro e w' ⟨rfl, rfl⟩
          by_cases g0 : byy < 1
          · have HZ : Hid (r = 2) := hide (by
              have h : f k = 2 := by rw [HVk.out, if_neg (by simp), if_neg (by simp), if_pos (by unfold InS; simp only; omega)]
              rw [HYes.out (by rw [h]; decide), h])
            go_wp2_with fail
            go_ret
            exact ⟨ret_i HZ.out.symm, HW1.out⟩
          have d0 : decide (byy < 1) = false := decide_eq_false g0
          by_cases g1 : 9999 < byy
          · have HZ : Hid (r = 2) := hide (by
              have h : f k = 2 := by rw [HVk.out, if_neg (by simp), if_neg (by simp), if_pos (by unfold InS; simp only; omega)]
              rw [HYes.out (by rw [h]; decide), h])
            go_wp2_with fail
            go_ret
            exact ⟨ret_i HZ.out.symm, HW1.out⟩
          have d1 : decide (9999 < byy) = false := decide_eq_false g1
          by_cases g2 : fnd < 0
          · have HZ : Hid (r = 2) := hide (by
              have h : f k = 2 := by rw [HVk.out, if_neg (by simp), if_neg (by simp), if_pos (by unfold InS; simp only; omega)]
              rw [HYes.out (by rw [h]; decide), h])
            go_wp2_with fail
            go_ret
            exact ⟨ret_i HZ.out.symm, HW1.out⟩
          have d2 : decide (fnd < 0) = false := decide_eq_false g2
          by_cases g3 : 1000 < fnd
          · have HZ : Hid (r = 2) := hide (by
              have h : f k = 2 := by rw [HVk.out, if_neg (by simp), if_neg (by simp), if_pos (by unfold InS; simp only; omega)]
              rw [HYes.out (by rw [h]; decide), h])
            go_wp2_with fail
            go_ret
            exact ⟨ret_i HZ.out.symm, HW1.out⟩
          have d3 : decide (1000 < fnd) = false := decide_eq_false g3
          by_cases g4 : att < bg
          · have HZ : Hid (r = 2) := hide (by
              have h : f k = 2 := by rw [HVk.out, if_neg (by simp), if_neg (by simp), if_pos (by unfold InS; simp only; omega)]
              rw [HYes.out (by rw [h]; decide), h])
            go_wp2_with fail
            go_ret
            exact ⟨ret_i HZ.out.symm, HW1.out⟩
          have d4 : decide (att < bg) = false := decide_eq_false g4
          by_cases g5 : 20000000 < att
          · have HZ : Hid (r = 2) := hide (by
              have h : f k = 2 := by rw [HVk.out, if_neg (by simp), if_neg (by simp), if_pos (by unfold InS; simp only; omega)]
              rw [HYes.out (by rw [h]; decide), h])
            go_wp2_with fail
            go_ret
            exact ⟨ret_i HZ.out.symm, HW1.out⟩
          have d5 : decide (20000000 < att) = false := decide_eq_false g5
          have HIn : Hid (InS bg ⟨run, byy, att, fnd⟩) := hide (by unfold InS; simp only; omega)
          clear hn
          rcases Nat.eq_zero_or_pos k with hk0 | hk0
          all_goals have HMd : Hid (StrV Rn.cells 7 w1.drew w1.drew.heap.size vr rs) := hide HM1.out
          all_goals have HRvd : Hid (RowV w1.drew w1.drew.heap.size (.slice A1 n1 c1) runs) := hide HRv1.out
          all_goals have HDrd : Hid (RowV w1.drew w1.drew.heap.size (.slice Av nv cv) T) := hide HDr.out
          · subst hk0
            cases poss with
            | false =>
              have HZ : Hid (r = 11) := hide (by
                  have h : f 0 = 11 := by rw [HVk.out, if_neg (by simp), if_neg (by simp), if_neg (not_not_intro HIn.out), if_pos (.inr rfl)]
                  rw [HYes.out (by rw [h]; decide), h])
              go_wp2_with fail
              refine wp_region_held_drew (S := fun W => Blk W w.heap.size 27 #[vn, vl, vr, vb] ∧ Blk W (w.heap.size + 1) 30 #[.slice A1 n1 c1, .slice (some ad) n c, .int .i64 bg] ∧ Blk W wo.heap.size 39 #[.int .i64 run, .int .i64 byy, .int .i64 att, .int .i64 fnd] ∧ W.cell? ⟨wo.heap.size, 0, none⟩ = some (.int .i64 run) ∧ W.cell? ⟨wo.heap.size, 2, none⟩ = some (.int .i64 att) ∧ W.cell? ⟨w.heap.size + 1, 1, none⟩ = some (.slice (some ad) n c)) (by kernel_rfl) (⟨HX01.out, HX11.out, HY1.out, e0, e2, s1⟩) (fun hHeld => ?_)
              refine held_run 0 (some 56) (.move (.tmp 6)) ?v11_1_2 (by rfl) (by kernel_rfl) (by kernel_rfl) (by kernel_rfl) (fun _ _ _ h => h) (fun o ho w hS => ?y11_1_2) (by assumption) ?r11_1_2
              case y11_1_2 => (try dsimp only at hS); unfold execOp; simp only [ho]; go_simp; try with_reducible rfl
              try simp only [Act.put, List.setIfInBounds_toArray, List.set_cons_zero, List.set_cons_succ]
              refine held_run 1 (some 57) (.binOp .gtr 3 (.tmp 56) (.const (.int .i64 0)) 3) ?v11_1_3 (by rfl) (by kernel_rfl) (by kernel_rfl) (by kernel_rfl) (fun _ _ _ h => h) (fun o ho w hS => ?y11_1_3) (by assumption) ?r11_1_3
              case y11_1_3 => (try dsimp only at hS); unfold execOp; simp only [ho]; go_simp; try with_reducible rfl
              try simp only [Act.put, List.setIfInBounds_toArray, List.set_cons_zero, List.set_cons_succ]
              refine held_run 2 (some 58) (.move (.tmp 57)) ?v11_1_4 (by rfl) (by kernel_rfl) (by kernel_rfl) (by kernel_rfl) (fun _ _ _ h => h) (fun o ho w hS => ?y11_1_4) (by assumption) ?r11_1_4
              case y11_1_4 => (try dsimp only at hS); unfold execOp; simp only [ho]; go_simp; try with_reducible rfl
              try simp only [Act.put, List.setIfInBounds_toArray, List.set_cons_zero, List.set_cons_succ]
              refine held_skip 3 (some 59) (by rfl) (by kernel_rfl) (by kernel_rfl) (by kernel_rfl) (fun _ _ _ h => h) (by assumption) ?_
              try simp only [Act.put, List.setIfInBounds_toArray, List.set_cons_zero, List.set_cons_succ]
              refine held_skip 4 (some 60) (by rfl) (by kernel_rfl) (by kernel_rfl) (by kernel_rfl) (fun _ _ _ h => h) (by assumption) ?_
              try simp only [Act.put, List.setIfInBounds_toArray, List.set_cons_zero, List.set_cons_succ]
              refine held_skip 5 (some 61) (by rfl) (by kernel_rfl) (by kernel_rfl) (by kernel_rfl) (fun _ _ _ h => h) (by assumption) ?_
              try simp only [Act.put, List.setIfInBounds_toArray, List.set_cons_zero, List.set_cons_succ]
              refine held_skip 6 (some 62) (by rfl) (by kernel_rfl) (by kernel_rfl) (by kernel_rfl) (fun _ _ _ h => h) (by assumption) ?_
              try simp only [Act.put, List.setIfInBounds_toArray, List.set_cons_zero, List.set_cons_succ]
              refine held_skip 7 (some 63) (by rfl) (by kernel_rfl) (by kernel_rfl) (by kernel_rfl) (fun _ _ _ h => h) (by assumption) ?_
              try simp only [Act.put, List.setIfInBounds_toArray, List.set_cons_zero, List.set_cons_succ]
              refine held_skip 8 (some 64) (by rfl) (by kernel_rfl) (by kernel_rfl) (by kernel_rfl) (fun _ _ _ h => h) (by assumption) ?_
              try simp only [Act.put, List.setIfInBounds_toArray, List.set_cons_zero, List.set_cons_succ]
              refine held_skip 9 (some 65) (by rfl) (by kernel_rfl) (by kernel_rfl) (by kernel_rfl) (fun _ _ _ h => h) (by assumption) ?_
              try simp only [Act.put, List.setIfInBounds_toArray, List.set_cons_zero, List.set_cons_succ]
              refine held_skip 10 (some 66) (by rfl) (by kernel_rfl) (by kernel_rfl) (by kernel_rfl) (fun _ _ _ h => h) (by assumption) ?_
              try simp only [Act.put, List.setIfInBounds_toArray, List.set_cons_zero, List.set_cons_succ]
              refine held_skip 11 (some 67) (by rfl) (by kernel_rfl) (by kernel_rfl) (by kernel_rfl) (fun _ _ _ h => h) (by assumption) ?_
              try simp only [Act.put, List.setIfInBounds_toArray, List.set_cons_zero, List.set_cons_succ]
              refine held_skip 12 (some 68) (by rfl) (by kernel_rfl) (by kernel_rfl) (by kernel_rfl) (fun _ _ _ h => h) (by assumption) ?_
              try simp only [Act.put, List.setIfInBounds_toArray, List.set_cons_zero, List.set_cons_succ]
              refine held_run 13 (some 69) (.pick (.tmp 58) (.tmp 68) (.const (Value.bool false))) ?v11_1_15 (by rfl) (by kernel_rfl) (by kernel_rfl) (by kernel_rfl) (fun _ _ _ h => h) (fun o ho w hS => ?y11_1_15) (by assumption) ?r11_1_15
              case y11_1_15 => (try dsimp only at hS); unfold execOp; simp only [ho]; go_simp; try with_reducible rfl
              try simp only [Act.put, List.setIfInBounds_toArray, List.set_cons_zero, List.set_cons_succ]
              refine held_run 14 (some 70) (.move (.tmp 69)) ?v11_1_16 (by rfl) (by kernel_rfl) (by kernel_rfl) (by kernel_rfl) (fun _ _ _ h => h) (fun o ho w hS => ?y11_1_16) (by assumption) ?r11_1_16
              case y11_1_16 => (try dsimp only at hS); unfold execOp; simp only [ho]; go_simp; try with_reducible rfl
              try simp only [Act.put, List.setIfInBounds_toArray, List.set_cons_zero, List.set_cons_succ]
              refine held_load 15 (some 71) 27 (.tmp 2) (by rfl) (by kernel_rfl) (by kernel_rfl) (by kernel_rfl) (w.heap.size) 27 #[vn, vl, vr, vb] (fun _ _ _ h => h) (by rfl) (fun _ h => h.1) _ Try.underlying27 rfl (by kernel_rfl) (by assumption) ?_
              try simp only [Act.put, List.setIfInBounds_toArray, List.set_cons_zero, List.set_cons_succ]
              refine held_load 16 (some 72) 30 (.tmp 3) (by rfl) (by kernel_rfl) (by kernel_rfl) (by kernel_rfl) (w.heap.size + 1) 30 #[.slice A1 n1 c1, .slice (some ad) n c, .int .i64 bg] (fun _ _ _ h => h) (by rfl) (fun _ h => h.2.1) _ Try.underlying30 rfl (by kernel_rfl) (by assumption) ?_
              try simp only [Act.put, List.setIfInBounds_toArray, List.set_cons_zero, List.set_cons_succ]
              refine held_run 17 (some 73) (.move (.tmp 5)) ?v11_1_19 (by rfl) (by kernel_rfl) (by kernel_rfl) (by kernel_rfl) (fun _ _ _ h => h) (fun o ho w hS => ?y11_1_19) (by assumption) ?r11_1_19
              case y11_1_19 => (try dsimp only at hS); unfold execOp; simp only [ho]; go_simp; try with_reducible rfl
              try simp only [Act.put, List.setIfInBounds_toArray, List.set_cons_zero, List.set_cons_succ]
              refine held_run 18 (some 74) (.fieldAddr 39 (.tmp 7) 0) ?v11_1_20 (by rfl) (by kernel_rfl) (by kernel_rfl) (by kernel_rfl) (fun _ _ _ h => h) (fun o ho w hS => ?y11_1_20) (by assumption) ?r11_1_20
              case y11_1_20 => (try dsimp only at hS); unfold execOp; simp only [ho]; go_simp; try with_reducible rfl
              try simp only [Act.put, List.setIfInBounds_toArray, List.set_cons_zero, List.set_cons_succ]
              refine held_run 19 (some 75) (.load 3 (.tmp 74)) ?v11_1_21 (by rfl) (by kernel_rfl) (by kernel_rfl) (by kernel_rfl) (fun _ _ _ h => h) (fun o ho w hS => ?y11_1_21) (by assumption) ?r11_1_21
              case y11_1_21 => (try dsimp only at hS); unfold execOp; simp only [ho]; go_simp; try with_reducible rfl
              try simp only [Act.put, List.setIfInBounds_toArray, List.set_cons_zero, List.set_cons_succ]
              refine held_call 20 (some 76) 67 [(.tmp 71), (.tmp 72), (.tmp 73), (.tmp 75)] #[27, 30, 25, 3] #[.agg #[vn, vl, vr, vb], .agg #[.slice A1 n1 c1, .slice (some ad) n c, .int .i64 bg], .slice Av nv cv, .int .i64 run] (by rfl) (by rfl) (by kernel_rfl) Try.func67 (by rfl) (by rfl) ?_
              refine (HC.out run (.slice Av nv cv) T _ HMd.out HRvd.out HDrd.out).mono ?_
              rw [HP.out]
              rintro e w2 ⟨rfl, hb2⟩
              have hbb2 : Below w1.heap.size w1 w2 := (Below.refl w1.heap.size w1).drew.trans hb2
              have HO2 : Hid (OwnI w2 wb.heap.size (.slice Av nv cv) T) := hide (own_below HO1.out hbb2 (Nat.le_refl _))
              have HY2 := Lib.hid (HY1.out.below hbb2 hly1)
              have HB2 := Lib.hid (HB1.out.trans (hbb2.mono hsz1))
              have HW2 := Lib.hid (HW1.out.trans (hbb2.mono HW1.out.size))
              have hsz2 : wb.heap.size ≤ w2.heap.size := Nat.le_trans hsz1 hbb2.size
              have HX02 := Lib.hid (HX01.out.below hbb2 (Nat.lt_of_lt_of_le hxx0 hsz1))
              have HX12 := Lib.hid (HX11.out.below hbb2 (Nat.lt_of_lt_of_le hxx1 hsz1))
              have HM2 := Lib.hid (HM1.out.now hbb2)
              have HR12 := Lib.hid (HR11.out.now hbb2)
              have HR2 := Lib.hid (HR1.out.now hbb2)
              have HRv2 := Lib.hid (HRv1.out.now hbb2)
              have f0 : w2.cell? ⟨wo.heap.size, 0, none⟩ = some (.int .i64 run) := HY2.out.cell 0
              have hH2 : (fun W => Blk W w.heap.size 27 #[vn, vl, vr, vb] ∧ Blk W (w.heap.size + 1) 30 #[.slice A1 n1 c1, .slice (some ad) n c, .int .i64 bg] ∧ Blk W wo.heap.size 39 #[.int .i64 run, .int .i64 byy, .int .i64 att, .int .i64 fnd] ∧ W.cell? ⟨wo.heap.size, 0, none⟩ = some (.int .i64 run) ∧ W.cell? ⟨wo.heap.size, 2, none⟩ = some (.int .i64 att) ∧ W.cell? ⟨w.heap.size + 1, 1, none⟩ = some (.slice (some ad) n c)) w2 := ⟨HX02.out, HX12.out, HY2.out, f0, HY2.out.cell 2, HX12.out.cell 1⟩
              refine ⟨_, rfl, hH2, ?_⟩
              clear hb2 hbb2
              try simp only [Act.put, List.setIfInBounds_toArray, List.set_cons_zero, List.set_cons_succ]
              refine held_run 21 (some 77) (.unOp .not 4 (.tmp 76)) ?v11_1_23 (by rfl) (by kernel_rfl) (by kernel_rfl) (by kernel_rfl) (fun _ _ _ h => h) (fun o ho w hS => ?y11_1_23) (by assumption) ?r11_1_23
              case y11_1_23 => (try dsimp only at hS); unfold execOp; simp only [ho]; go_simp; try with_reducible rfl
              try simp only [Act.put, List.setIfInBounds_toArray, List.set_cons_zero, List.set_cons_succ]
              refine held_run 22 (some 78) (.pick (.tmp 70) (.const (Value.bool true)) (.tmp 77)) ?v11_1_24 (by rfl) (by kernel_rfl) (by kernel_rfl) (by kernel_rfl) (fun _ _ _ h => h) (fun o ho w hS => ?y11_1_24) (by assumption) ?r11_1_24
              case y11_1_24 => (try dsimp only at hS); unfold execOp; simp only [ho]; go_simp; try with_reducible rfl
              try simp only [Act.put, List.setIfInBounds_toArray, List.set_cons_zero, List.set_cons_succ]
              refine wpAnyH_done (by kernel_rfl) ?_ _
              go_wp2_with fail
              go_ret
              exact ⟨ret_i HZ.out.symm, HW2.out⟩
            | true =>
              have HGo : Hid (r = errF f 1 (n - 1) ∧ ∀ i, i < 1 → f i = 0) := hide (HNo.out (by rw [HVk.out, if_neg (by simp), if_neg (by simp), if_neg (not_not_intro HIn.out), if_neg (fun h => h.elim (fun h => absurd h.1 (by omega)) (fun h => by cases h))]))
              go_wp2_with fail
              refine wp_region_held_drew (S := fun W => Blk W w.heap.size 27 #[vn, vl, vr, vb] ∧ Blk W (w.heap.size + 1) 30 #[.slice A1 n1 c1, .slice (some ad) n c, .int .i64 bg] ∧ Blk W wo.heap.size 39 #[.int .i64 run, .int .i64 byy, .int .i64 att, .int .i64 fnd] ∧ W.cell? ⟨wo.heap.size, 0, none⟩ = some (.int .i64 run) ∧ W.cell? ⟨wo.heap.size, 2, none⟩ = some (.int .i64 att) ∧ W.cell? ⟨w.heap.size + 1, 1, none⟩ = some (.slice (some ad) n c)) (by kernel_rfl) (⟨HX01.out, HX11.out, HY1.out, e0, e2, s1⟩) (fun hHeld => ?_)
              refine held_run 0 (some 56) (.move (.tmp 6)) ?v11_25_26 (by rfl) (by kernel_rfl) (by kernel_rfl) (by kernel_rfl) (fun _ _ _ h => h) (fun o ho w hS => ?y11_25_26) (by assumption) ?r11_25_26
              case y11_25_26 => (try dsimp only at hS); unfold execOp; simp only [ho]; go_simp; try with_reducible rfl
              try simp only [Act.put, List.setIfInBounds_toArray, List.set_cons_zero, List.set_cons_succ]
              refine held_run 1 (some 57) (.binOp .gtr 3 (.tmp 56) (.const (.int .i64 0)) 3) ?v11_25_27 (by rfl) (by kernel_rfl) (by kernel_rfl) (by kernel_rfl) (fun _ _ _ h => h) (fun o ho w hS => ?y11_25_27) (by assumption) ?r11_25_27
              case y11_25_27 => (try dsimp only at hS); unfold execOp; simp only [ho]; go_simp; try with_reducible rfl
              try simp only [Act.put, List.setIfInBounds_toArray, List.set_cons_zero, List.set_cons_succ]
              refine held_run 2 (some 58) (.move (.tmp 57)) ?v11_25_28 (by rfl) (by kernel_rfl) (by kernel_rfl) (by kernel_rfl) (fun _ _ _ h => h) (fun o ho w hS => ?y11_25_28) (by assumption) ?r11_25_28
              case y11_25_28 => (try dsimp only at hS); unfold execOp; simp only [ho]; go_simp; try with_reducible rfl
              try simp only [Act.put, List.setIfInBounds_toArray, List.set_cons_zero, List.set_cons_succ]
              refine held_skip 3 (some 59) (by rfl) (by kernel_rfl) (by kernel_rfl) (by kernel_rfl) (fun _ _ _ h => h) (by assumption) ?_
              try simp only [Act.put, List.setIfInBounds_toArray, List.set_cons_zero, List.set_cons_succ]
              refine held_skip 4 (some 60) (by rfl) (by kernel_rfl) (by kernel_rfl) (by kernel_rfl) (fun _ _ _ h => h) (by assumption) ?_
              try simp only [Act.put, List.setIfInBounds_toArray, List.set_cons_zero, List.set_cons_succ]
              refine held_skip 5 (some 61) (by rfl) (by kernel_rfl) (by kernel_rfl) (by kernel_rfl) (fun _ _ _ h => h) (by assumption) ?_
              try simp only [Act.put, List.setIfInBounds_toArray, List.set_cons_zero, List.set_cons_succ]
              refine held_skip 6 (some 62) (by rfl) (by kernel_rfl) (by kernel_rfl) (by kernel_rfl) (fun _ _ _ h => h) (by assumption) ?_
              try simp only [Act.put, List.setIfInBounds_toArray, List.set_cons_zero, List.set_cons_succ]
              refine held_skip 7 (some 63) (by rfl) (by kernel_rfl) (by kernel_rfl) (by kernel_rfl) (fun _ _ _ h => h) (by assumption) ?_
              try simp only [Act.put, List.setIfInBounds_toArray, List.set_cons_zero, List.set_cons_succ]
              refine held_skip 8 (some 64) (by rfl) (by kernel_rfl) (by kernel_rfl) (by kernel_rfl) (fun _ _ _ h => h) (by assumption) ?_
              try simp only [Act.put, List.setIfInBounds_toArray, List.set_cons_zero, List.set_cons_succ]
              refine held_skip 9 (some 65) (by rfl) (by kernel_rfl) (by kernel_rfl) (by kernel_rfl) (fun _ _ _ h => h) (by assumption) ?_
              try simp only [Act.put, List.setIfInBounds_toArray, List.set_cons_zero, List.set_cons_succ]
              refine held_skip 10 (some 66) (by rfl) (by kernel_rfl) (by kernel_rfl) (by kernel_rfl) (fun _ _ _ h => h) (by assumption) ?_
              try simp only [Act.put, List.setIfInBounds_toArray, List.set_cons_zero, List.set_cons_succ]
              refine held_skip 11 (some 67) (by rfl) (by kernel_rfl) (by kernel_rfl) (by kernel_rfl) (fun _ _ _ h => h) (by assumption) ?_
              try simp only [Act.put, List.setIfInBounds_toArray, List.set_cons_zero, List.set_cons_succ]
              refine held_skip 12 (some 68) (by rfl) (by kernel_rfl) (by kernel_rfl) (by kernel_rfl) (fun _ _ _ h => h) (by assumption) ?_
              try simp only [Act.put, List.setIfInBounds_toArray, List.set_cons_zero, List.set_cons_succ]
              refine held_run 13 (some 69) (.pick (.tmp 58) (.tmp 68) (.const (Value.bool false))) ?v11_25_39 (by rfl) (by kernel_rfl) (by kernel_rfl) (by kernel_rfl) (fun _ _ _ h => h) (fun o ho w hS => ?y11_25_39) (by assumption) ?r11_25_39
              case y11_25_39 => (try dsimp only at hS); unfold execOp; simp only [ho]; go_simp; try with_reducible rfl
              try simp only [Act.put, List.setIfInBounds_toArray, List.set_cons_zero, List.set_cons_succ]
              refine held_run 14 (some 70) (.move (.tmp 69)) ?v11_25_40 (by rfl) (by kernel_rfl) (by kernel_rfl) (by kernel_rfl) (fun _ _ _ h => h) (fun o ho w hS => ?y11_25_40) (by assumption) ?r11_25_40
              case y11_25_40 => (try dsimp only at hS); unfold execOp; simp only [ho]; go_simp; try with_reducible rfl
              try simp only [Act.put, List.setIfInBounds_toArray, List.set_cons_zero, List.set_cons_succ]
              refine held_load 15 (some 71) 27 (.tmp 2) (by rfl) (by kernel_rfl) (by kernel_rfl) (by kernel_rfl) (w.heap.size) 27 #[vn, vl, vr, vb] (fun _ _ _ h => h) (by rfl) (fun _ h => h.1) _ Try.underlying27 rfl (by kernel_rfl) (by assumption) ?_
              try simp only [Act.put, List.setIfInBounds_toArray, List.set_cons_zero, List.set_cons_succ]
              refine held_load 16 (some 72) 30 (.tmp 3) (by rfl) (by kernel_rfl) (by kernel_rfl) (by kernel_rfl) (w.heap.size + 1) 30 #[.slice A1 n1 c1, .slice (some ad) n c, .int .i64 bg] (fun _ _ _ h => h) (by rfl) (fun _ h => h.2.1) _ Try.underlying30 rfl (by kernel_rfl) (by assumption) ?_
              try simp only [Act.put, List.setIfInBounds_toArray, List.set_cons_zero, List.set_cons_succ]
              refine held_run 17 (some 73) (.move (.tmp 5)) ?v11_25_43 (by rfl) (by kernel_rfl) (by kernel_rfl) (by kernel_rfl) (fun _ _ _ h => h) (fun o ho w hS => ?y11_25_43) (by assumption) ?r11_25_43
              case y11_25_43 => (try dsimp only at hS); unfold execOp; simp only [ho]; go_simp; try with_reducible rfl
              try simp only [Act.put, List.setIfInBounds_toArray, List.set_cons_zero, List.set_cons_succ]
              refine held_run 18 (some 74) (.fieldAddr 39 (.tmp 7) 0) ?v11_25_44 (by rfl) (by kernel_rfl) (by kernel_rfl) (by kernel_rfl) (fun _ _ _ h => h) (fun o ho w hS => ?y11_25_44) (by assumption) ?r11_25_44
              case y11_25_44 => (try dsimp only at hS); unfold execOp; simp only [ho]; go_simp; try with_reducible rfl
              try simp only [Act.put, List.setIfInBounds_toArray, List.set_cons_zero, List.set_cons_succ]
              refine held_run 19 (some 75) (.load 3 (.tmp 74)) ?v11_25_45 (by rfl) (by kernel_rfl) (by kernel_rfl) (by kernel_rfl) (fun _ _ _ h => h) (fun o ho w hS => ?y11_25_45) (by assumption) ?r11_25_45
              case y11_25_45 => (try dsimp only at hS); unfold execOp; simp only [ho]; go_simp; try with_reducible rfl
              try simp only [Act.put, List.setIfInBounds_toArray, List.set_cons_zero, List.set_cons_succ]
              refine held_call 20 (some 76) 67 [(.tmp 71), (.tmp 72), (.tmp 73), (.tmp 75)] #[27, 30, 25, 3] #[.agg #[vn, vl, vr, vb], .agg #[.slice A1 n1 c1, .slice (some ad) n c, .int .i64 bg], .slice Av nv cv, .int .i64 run] (by rfl) (by rfl) (by kernel_rfl) Try.func67 (by rfl) (by rfl) ?_
              refine (HC.out run (.slice Av nv cv) T _ HMd.out HRvd.out HDrd.out).mono ?_
              rw [HP.out]
              rintro e w2 ⟨rfl, hb2⟩
              have hbb2 : Below w1.heap.size w1 w2 := (Below.refl w1.heap.size w1).drew.trans hb2
              have HO2 : Hid (OwnI w2 wb.heap.size (.slice Av nv cv) T) := hide (own_below HO1.out hbb2 (Nat.le_refl _))
              have HY2 := Lib.hid (HY1.out.below hbb2 hly1)
              have HB2 := Lib.hid (HB1.out.trans (hbb2.mono hsz1))
              have HW2 := Lib.hid (HW1.out.trans (hbb2.mono HW1.out.size))
              have hsz2 : wb.heap.size ≤ w2.heap.size := Nat.le_trans hsz1 hbb2.size
              have HX02 := Lib.hid (HX01.out.below hbb2 (Nat.lt_of_lt_of_le hxx0 hsz1))
              have HX12 := Lib.hid (HX11.out.below hbb2 (Nat.lt_of_lt_of_le hxx1 hsz1))
              have HM2 := Lib.hid (HM1.out.now hbb2)
              have HR12 := Lib.hid (HR11.out.now hbb2)
              have HR2 := Lib.hid (HR1.out.now hbb2)
              have HRv2 := Lib.hid (HRv1.out.now hbb2)
              have f0 : w2.cell? ⟨wo.heap.size, 0, none⟩ = some (.int .i64 run) := HY2.out.cell 0
              have hH2 : (fun W => Blk W w.heap.size 27 #[vn, vl, vr, vb] ∧ Blk W (w.heap.size + 1) 30 #[.slice A1 n1 c1, .slice (some ad) n c, .int .i64 bg] ∧ Blk W wo.heap.size 39 #[.int .i64 run, .int .i64 byy, .int .i64 att, .int .i64 fnd] ∧ W.cell? ⟨wo.heap.size, 0, none⟩ = some (.int .i64 run) ∧ W.cell? ⟨wo.heap.size, 2, none⟩ = some (.int .i64 att) ∧ W.cell? ⟨w.heap.size + 1, 1, none⟩ = some (.slice (some ad) n c)) w2 := ⟨HX02.out, HX12.out, HY2.out, f0, HY2.out.cell 2, HX12.out.cell 1⟩
              refine ⟨_, rfl, hH2, ?_⟩
              clear hb2 hbb2
              try simp only [Act.put, List.setIfInBounds_toArray, List.set_cons_zero, List.set_cons_succ]
              refine held_run 21 (some 77) (.unOp .not 4 (.tmp 76)) ?v11_25_47 (by rfl) (by kernel_rfl) (by kernel_rfl) (by kernel_rfl) (fun _ _ _ h => h) (fun o ho w hS => ?y11_25_47) (by assumption) ?r11_25_47
              case y11_25_47 => (try dsimp only at hS); unfold execOp; simp only [ho]; go_simp; try with_reducible rfl
              try simp only [Act.put, List.setIfInBounds_toArray, List.set_cons_zero, List.set_cons_succ]
              refine held_run 22 (some 78) (.pick (.tmp 70) (.const (Value.bool true)) (.tmp 77)) ?v11_25_48 (by rfl) (by kernel_rfl) (by kernel_rfl) (by kernel_rfl) (fun _ _ _ h => h) (fun o ho w hS => ?y11_25_48) (by assumption) ?r11_25_48
              case y11_25_48 => (try dsimp only at hS); unfold execOp; simp only [ho]; go_simp; try with_reducible rfl
              try simp only [Act.put, List.setIfInBounds_toArray, List.set_cons_zero, List.set_cons_succ]
              refine wpAnyH_done (by kernel_rfl) ?_ _
              go_wp2_with
                (at_builtin
                 refine wpList_app_lit ei_ints rfl (.tmp 79) (.tmp 82) rfl wb.heap.size (.slice Av nv cv) nv (T.map (Value.int .i64)) rfl (HO2.out.row HTv.out) 1 rfl rfl (by simp [Value.oneCell']) (by simp only [maxLen]; omega) (by omega) hsz2 ?_
                 intro v3 w3 hown3 hb3 _ _
                 have HO3 : Hid (OwnI w3 wb.heap.size v3 (T ++ [run])) := hide (OwnI.mk' hown3 (by rw [List.length_append, HTv.out]; rfl) (by simp))
                 have HB3 := Lib.hid (HB2.out.trans hb3)
                 clear hown3 hb3)
              go_roundw
              case rel => exact ⟨1, by omega, by go_num, by rw [HTs.out]; exact HO3.out, HGo.out.1, HGo.out.2, HB3.out⟩
              case measure => simp [intOf]; omega
          · obtain ⟨k', hk'⟩ : ∃ k', k = k' + 1 := ⟨k - 1, by omega⟩
            have hcp := HPrev.out k' hk'
            have hkm : k - 1 = k' := by omega
            rw [hkm] at HVk
            clear hkm
            generalize sw.getD k' sw0 = q' at *
            obtain ⟨run', byy', p, fnd'⟩ := q'
            simp only at HVk
            have cpo : wo.cell? ((ad.add (k' * 4)).add 2) = some (.int .i64 p) := hcp 2 _ rfl
            have cp : w1.cell? ⟨(ad.add (k' * 4)).block, (ad.add (k' * 4)).off + 2, none⟩ = some (.int .i64 p) := (HWp.out.cell (p := (ad.add (k' * 4)).add 2) (by rw [block_of_add, block_of_add]; exact hab)).trans cpo
            clear hcp cpo
            have hj : (k : Int) - 1 = (k' : Int) := by omega
            have hkn : k' < n := by omega
            have dk : decide (0 < k) = true := decide_eq_true hk0
            have hwr : IntKind.i64.wrap (k' : Int) = (k' : Int) := IntWalk.i64_in _ (by omega)
            clear hk'
            by_cases h3 : att < p
            · have HZ : Hid (r = 11) := hide (by
                have h : f k = 11 := by rw [HVk.out, if_neg (by simp), if_neg (by simp), if_neg (not_not_intro HIn.out), if_pos (.inl ⟨hk0, h3⟩)]
                rw [HYes.out (by rw [h]; decide), h])
              go_wp2_with fail
              refine wp_region_held_drew (S := fun W => Blk W w.heap.size 27 #[vn, vl, vr, vb] ∧ Blk W (w.heap.size + 1) 30 #[.slice A1 n1 c1, .slice (some ad) n c, .int .i64 bg] ∧ Blk W wo.heap.size 39 #[.int .i64 run, .int .i64 byy, .int .i64 att, .int .i64 fnd] ∧ W.cell? ⟨wo.heap.size, 0, none⟩ = some (.int .i64 run) ∧ W.cell? ⟨wo.heap.size, 2, none⟩ = some (.int .i64 att) ∧ W.cell? ⟨w.heap.size + 1, 1, none⟩ = some (.slice (some ad) n c) ∧ W.cell? ⟨(ad.add (k' * 4)).block, (ad.add (k' * 4)).off + 2, none⟩ = some (.int .i64 p)) (by kernel_rfl) (⟨HX01.out, HX11.out, HY1.out, e0, e2, s1, cp⟩) (fun hHeld => ?_)
              refine held_run 0 (some 56) (.move (.tmp 6)) ?v11_49_50 (by rfl) (by kernel_rfl) (by kernel_rfl) (by kernel_rfl) (fun _ _ _ h => h) (fun o ho w hS => ?y11_49_50) (by assumption) ?r11_49_50
              case y11_49_50 => (try dsimp only at hS); unfold execOp; simp only [ho]; go_simp; try with_reducible rfl
              try simp only [Act.put, List.setIfInBounds_toArray, List.set_cons_zero, List.set_cons_succ]
              refine held_run 1 (some 57) (.binOp .gtr 3 (.tmp 56) (.const (.int .i64 0)) 3) ?v11_49_51 (by rfl) (by kernel_rfl) (by kernel_rfl) (by kernel_rfl) (fun _ _ _ h => h) (fun o ho w hS => ?y11_49_51) (by assumption) ?r11_49_51
              case y11_49_51 => (try dsimp only at hS); unfold execOp; simp only [ho]; go_simp; try with_reducible rfl
              try simp only [Act.put, List.setIfInBounds_toArray, List.set_cons_zero, List.set_cons_succ]
              refine held_run 2 (some 58) (.move (.tmp 57)) ?v11_49_52 (by rfl) (by kernel_rfl) (by kernel_rfl) (by kernel_rfl) (fun _ _ _ h => h) (fun o ho w hS => ?y11_49_52) (by assumption) ?r11_49_52
              case y11_49_52 => (try dsimp only at hS); unfold execOp; simp only [ho]; go_simp; try with_reducible rfl
              try simp only [Act.put, List.setIfInBounds_toArray, List.set_cons_zero, List.set_cons_succ]
              refine held_run 3 (some 59) (.fieldAddr 39 (.tmp 7) 2) ?v11_49_53 (by rfl) (by kernel_rfl) (by kernel_rfl) (by kernel_rfl) (fun _ _ _ h => h) (fun o ho w hS => ?y11_49_53) (by assumption) ?r11_49_53
              case y11_49_53 => (try dsimp only at hS); unfold execOp; simp only [ho]; go_simp; try with_reducible rfl
              try simp only [Act.put, List.setIfInBounds_toArray, List.set_cons_zero, List.set_cons_succ]
              refine held_run 4 (some 60) (.load 3 (.tmp 59)) ?v11_49_54 (by rfl) (by kernel_rfl) (by kernel_rfl) (by kernel_rfl) (fun _ _ _ h => h) (fun o ho w hS => ?y11_49_54) (by assumption) ?r11_49_54
              case y11_49_54 => (try dsimp only at hS); unfold execOp; simp only [ho]; go_simp; try with_reducible rfl
              try simp only [Act.put, List.setIfInBounds_toArray, List.set_cons_zero, List.set_cons_succ]
              refine held_run 5 (some 61) (.fieldAddr 30 (.tmp 3) 1) ?v11_49_55 (by rfl) (by kernel_rfl) (by kernel_rfl) (by kernel_rfl) (fun _ _ _ h => h) (fun o ho w hS => ?y11_49_55) (by assumption) ?r11_49_55
              case y11_49_55 => (try dsimp only at hS); unfold execOp; simp only [ho]; go_simp; try with_reducible rfl
              try simp only [Act.put, List.setIfInBounds_toArray, List.set_cons_zero, List.set_cons_succ]
              refine held_run 6 (some 62) (.load 28 (.tmp 61)) ?v11_49_56 (by rfl) (by kernel_rfl) (by kernel_rfl) (by kernel_rfl) (fun _ _ _ h => h) (fun o ho w hS => ?y11_49_56) (by assumption) ?r11_49_56
              case y11_49_56 => (try dsimp only at hS); unfold execOp; simp only [ho]; go_simp; try with_reducible rfl
              try simp only [Act.put, List.setIfInBounds_toArray, List.set_cons_zero, List.set_cons_succ]
              refine held_run 7 (some 63) (.move (.tmp 6)) ?v11_49_57 (by rfl) (by kernel_rfl) (by kernel_rfl) (by kernel_rfl) (fun _ _ _ h => h) (fun o ho w hS => ?y11_49_57) (by assumption) ?r11_49_57
              case y11_49_57 => (try dsimp only at hS); unfold execOp; simp only [ho]; go_simp; try with_reducible rfl
              try simp only [Act.put, List.setIfInBounds_toArray, List.set_cons_zero, List.set_cons_succ]
              refine held_run 8 (some 64) (.binOp .sub 3 (.tmp 63) (.const (.int .i64 1)) 3) ?v11_49_58 (by rfl) (by kernel_rfl) (by kernel_rfl) (by kernel_rfl) (fun _ _ _ h => h) (fun o ho w hS => ?y11_49_58) (by assumption) ?r11_49_58
              case y11_49_58 => (try dsimp only at hS); unfold execOp; simp only [ho]; go_simp; try with_reducible rfl
              try simp only [Act.put, List.setIfInBounds_toArray, List.set_cons_zero, List.set_cons_succ]
              refine held_run 9 (some 65) (.indexAddr 28 (.tmp 62) (.tmp 64)) ?v11_49_59 (by rfl) (by kernel_rfl) (by kernel_rfl) (by kernel_rfl) (fun _ _ _ h => h) (fun o ho w hS => ?y11_49_59) (by assumption) ?r11_49_59
              case y11_49_59 => (try dsimp only at hS); unfold execOp; simp only [ho]; go_simp; try with_reducible rfl
              try simp only [Act.put, List.setIfInBounds_toArray, List.set_cons_zero, List.set_cons_succ]
              refine held_run 10 (some 66) (.fieldAddr 39 (.tmp 65) 2) ?v11_49_60 (by rfl) (by kernel_rfl) (by kernel_rfl) (by kernel_rfl) (fun _ _ _ h => h) (fun o ho w hS => ?y11_49_60) (by assumption) ?r11_49_60
              case y11_49_60 => (try dsimp only at hS); unfold execOp; simp only [ho]; go_simp; try with_reducible rfl
              try simp only [Act.put, List.setIfInBounds_toArray, List.set_cons_zero, List.set_cons_succ]
              refine held_run 11 (some 67) (.load 3 (.tmp 66)) ?v11_49_61 (by rfl) (by kernel_rfl) (by kernel_rfl) (by kernel_rfl) (fun _ _ _ h => h) (fun o ho w hS => ?y11_49_61) (by assumption) ?r11_49_61
              case y11_49_61 => (try dsimp only at hS); unfold execOp; simp only [ho]; go_simp; try with_reducible rfl
              try simp only [Act.put, List.setIfInBounds_toArray, List.set_cons_zero, List.set_cons_succ]
              refine held_run 12 (some 68) (.binOp .lss 3 (.tmp 60) (.tmp 67) 3) ?v11_49_62 (by rfl) (by kernel_rfl) (by kernel_rfl) (by kernel_rfl) (fun _ _ _ h => h) (fun o ho w hS => ?y11_49_62) (by assumption) ?r11_49_62
              case y11_49_62 => (try dsimp only at hS); unfold execOp; simp only [ho]; go_simp; try with_reducible rfl
              try simp only [Act.put, List.setIfInBounds_toArray, List.set_cons_zero, List.set_cons_succ]
              refine held_run 13 (some 69) (.pick (.tmp 58) (.tmp 68) (.const (Value.bool false))) ?v11_49_63 (by rfl) (by kernel_rfl) (by kernel_rfl) (by kernel_rfl) (fun _ _ _ h => h) (fun o ho w hS => ?y11_49_63) (by assumption) ?r11_49_63
              case y11_49_63 => (try dsimp only at hS); unfold execOp; simp only [ho]; go_simp; try with_reducible rfl
              try simp only [Act.put, List.setIfInBounds_toArray, List.set_cons_zero, List.set_cons_succ]
              refine held_run 14 (some 70) (.move (.tmp 69)) ?v11_49_64 (by rfl) (by kernel_rfl) (by kernel_rfl) (by kernel_rfl) (fun _ _ _ h => h) (fun o ho w hS => ?y11_49_64) (by assumption) ?r11_49_64
              case y11_49_64 => (try dsimp only at hS); unfold execOp; simp only [ho]; go_simp; try with_reducible rfl
              try simp only [Act.put, List.setIfInBounds_toArray, List.set_cons_zero, List.set_cons_succ]
              refine held_skip 15 (some 71) (by rfl) (by kernel_rfl) (by kernel_rfl) (by kernel_rfl) (fun _ _ _ h => h) (by assumption) ?_
              try simp only [Act.put, List.setIfInBounds_toArray, List.set_cons_zero, List.set_cons_succ]
              refine held_skip 16 (some 72) (by rfl) (by kernel_rfl) (by kernel_rfl) (by kernel_rfl) (fun _ _ _ h => h) (by assumption) ?_
              try simp only [Act.put, List.setIfInBounds_toArray, List.set_cons_zero, List.set_cons_succ]
              refine held_skip 17 (some 73) (by rfl) (by kernel_rfl) (by kernel_rfl) (by kernel_rfl) (fun _ _ _ h => h) (by assumption) ?_
              try simp only [Act.put, List.setIfInBounds_toArray, List.set_cons_zero, List.set_cons_succ]
              refine held_skip 18 (some 74) (by rfl) (by kernel_rfl) (by kernel_rfl) (by kernel_rfl) (fun _ _ _ h => h) (by assumption) ?_
              try simp only [Act.put, List.setIfInBounds_toArray, List.set_cons_zero, List.set_cons_succ]
              refine held_skip 19 (some 75) (by rfl) (by kernel_rfl) (by kernel_rfl) (by kernel_rfl) (fun _ _ _ h => h) (by assumption) ?_
              try simp only [Act.put, List.setIfInBounds_toArray, List.set_cons_zero, List.set_cons_succ]
              refine held_skip 20 (some 76) (by rfl) (by kernel_rfl) (by kernel_rfl) (by kernel_rfl) (fun _ _ _ h => h) (by assumption) ?_
              try simp only [Act.put, List.setIfInBounds_toArray, List.set_cons_zero, List.set_cons_succ]
              refine held_skip 21 (some 77) (by rfl) (by kernel_rfl) (by kernel_rfl) (by kernel_rfl) (fun _ _ _ h => h) (by assumption) ?_
              try simp only [Act.put, List.setIfInBounds_toArray, List.set_cons_zero, List.set_cons_succ]
              refine held_run 22 (some 78) (.pick (.tmp 70) (.const (Value.bool true)) (.tmp 77)) ?v11_49_72 (by rfl) (by kernel_rfl) (by kernel_rfl) (by kernel_rfl) (fun _ _ _ h => h) (fun o ho w hS => ?y11_49_72) (by assumption) ?r11_49_72
              case y11_49_72 => (try dsimp only at hS); unfold execOp; simp only [ho]; go_simp; try with_reducible rfl
              try simp only [Act.put, List.setIfInBounds_toArray, List.set_cons_zero, List.set_cons_succ]
              refine wpAnyH_done (by kernel_rfl) ?_ _
              clear hwr
              go_wp2_with fail
              go_ret
              exact ⟨ret_i HZ.out.symm, HW1.out.drew⟩
            · have d9 : decide (att < p) = false := decide_eq_false h3
              cases poss with
              | false =>
                have HZ : Hid (r = 11) := hide (by
                    have h : f k = 11 := by rw [HVk.out, if_neg (by simp), if_neg (by simp), if_neg (not_not_intro HIn.out), if_pos (.inr rfl)]
                    rw [HYes.out (by rw [h]; decide), h])
                go_wp2_with fail
                refine wp_region_held_drew (S := fun W => Blk W w.heap.size 27 #[vn, vl, vr, vb] ∧ Blk W (w.heap.size + 1) 30 #[.slice A1 n1 c1, .slice (some ad) n c, .int .i64 bg] ∧ Blk W wo.heap.size 39 #[.int .i64 run, .int .i64 byy, .int .i64 att, .int .i64 fnd] ∧ W.cell? ⟨wo.heap.size, 0, none⟩ = some (.int .i64 run) ∧ W.cell? ⟨wo.heap.size, 2, none⟩ = some (.int .i64 att) ∧ W.cell? ⟨w.heap.size + 1, 1, none⟩ = some (.slice (some ad) n c) ∧ W.cell? ⟨(ad.add (k' * 4)).block, (ad.add (k' * 4)).off + 2, none⟩ = some (.int .i64 p)) (by kernel_rfl) (⟨HX01.out, HX11.out, HY1.out, e0, e2, s1, cp⟩) (fun hHeld => ?_)
                refine held_run 0 (some 56) (.move (.tmp 6)) ?v11_73_74 (by rfl) (by kernel_rfl) (by kernel_rfl) (by kernel_rfl) (fun _ _ _ h => h) (fun o ho w hS => ?y11_73_74) (by assumption) ?r11_73_74
                case y11_73_74 => (try dsimp only at hS); unfold execOp; simp only [ho]; go_simp; try with_reducible rfl
                try simp only [Act.put, List.setIfInBounds_toArray, List.set_cons_zero, List.set_cons_succ]
                refine held_run 1 (some 57) (.binOp .gtr 3 (.tmp 56) (.const (.int .i64 0)) 3) ?v11_73_75 (by rfl) (by kernel_rfl) (by kernel_rfl) (by kernel_rfl) (fun _ _ _ h => h) (fun o ho w hS => ?y11_73_75) (by assumption) ?r11_73_75
                case y11_73_75 => (try dsimp only at hS); unfold execOp; simp only [ho]; go_simp; try with_reducible rfl
                try simp only [Act.put, List.setIfInBounds_toArray, List.set_cons_zero, List.set_cons_succ]
                refine held_run 2 (some 58) (.move (.tmp 57)) ?v11_73_76 (by rfl) (by kernel_rfl) (by kernel_rfl) (by kernel_rfl) (fun _ _ _ h => h) (fun o ho w hS => ?y11_73_76) (by assumption) ?r11_73_76
                case y11_73_76 => (try dsimp only at hS); unfold execOp; simp only [ho]; go_simp; try with_reducible rfl
                try simp only [Act.put, List.setIfInBounds_toArray, List.set_cons_zero, List.set_cons_succ]
                refine held_run 3 (some 59) (.fieldAddr 39 (.tmp 7) 2) ?v11_73_77 (by rfl) (by kernel_rfl) (by kernel_rfl) (by kernel_rfl) (fun _ _ _ h => h) (fun o ho w hS => ?y11_73_77) (by assumption) ?r11_73_77
                case y11_73_77 => (try dsimp only at hS); unfold execOp; simp only [ho]; go_simp; try with_reducible rfl
                try simp only [Act.put, List.setIfInBounds_toArray, List.set_cons_zero, List.set_cons_succ]
                refine held_run 4 (some 60) (.load 3 (.tmp 59)) ?v11_73_78 (by rfl) (by kernel_rfl) (by kernel_rfl) (by kernel_rfl) (fun _ _ _ h => h) (fun o ho w hS => ?y11_73_78) (by assumption) ?r11_73_78
                case y11_73_78 => (try dsimp only at hS); unfold execOp; simp only [ho]; go_simp; try with_reducible rfl
                try simp only [Act.put, List.setIfInBounds_toArray, List.set_cons_zero, List.set_cons_succ]
                refine held_run 5 (some 61) (.fieldAddr 30 (.tmp 3) 1) ?v11_73_79 (by rfl) (by kernel_rfl) (by kernel_rfl) (by kernel_rfl) (fun _ _ _ h => h) (fun o ho w hS => ?y11_73_79) (by assumption) ?r11_73_79
                case y11_73_79 => (try dsimp only at hS); unfold execOp; simp only [ho]; go_simp; try with_reducible rfl
                try simp only [Act.put, List.setIfInBounds_toArray, List.set_cons_zero, List.set_cons_succ]
                refine held_run 6 (some 62) (.load 28 (.tmp 61)) ?v11_73_80 (by rfl) (by kernel_rfl) (by kernel_rfl) (by kernel_rfl) (fun _ _ _ h => h) (fun o ho w hS => ?y11_73_80) (by assumption) ?r11_73_80
                case y11_73_80 => (try dsimp only at hS); unfold execOp; simp only [ho]; go_simp; try with_reducible rfl
                try simp only [Act.put, List.setIfInBounds_toArray, List.set_cons_zero, List.set_cons_succ]
                refine held_run 7 (some 63) (.move (.tmp 6)) ?v11_73_81 (by rfl) (by kernel_rfl) (by kernel_rfl) (by kernel_rfl) (fun _ _ _ h => h) (fun o ho w hS => ?y11_73_81) (by assumption) ?r11_73_81
                case y11_73_81 => (try dsimp only at hS); unfold execOp; simp only [ho]; go_simp; try with_reducible rfl
                try simp only [Act.put, List.setIfInBounds_toArray, List.set_cons_zero, List.set_cons_succ]
                refine held_run 8 (some 64) (.binOp .sub 3 (.tmp 63) (.const (.int .i64 1)) 3) ?v11_73_82 (by rfl) (by kernel_rfl) (by kernel_rfl) (by kernel_rfl) (fun _ _ _ h => h) (fun o ho w hS => ?y11_73_82) (by assumption) ?r11_73_82
                case y11_73_82 => (try dsimp only at hS); unfold execOp; simp only [ho]; go_simp; try with_reducible rfl
                try simp only [Act.put, List.setIfInBounds_toArray, List.set_cons_zero, List.set_cons_succ]
                refine held_run 9 (some 65) (.indexAddr 28 (.tmp 62) (.tmp 64)) ?v11_73_83 (by rfl) (by kernel_rfl) (by kernel_rfl) (by kernel_rfl) (fun _ _ _ h => h) (fun o ho w hS => ?y11_73_83) (by assumption) ?r11_73_83
                case y11_73_83 => (try dsimp only at hS); unfold execOp; simp only [ho]; go_simp; try with_reducible rfl
                try simp only [Act.put, List.setIfInBounds_toArray, List.set_cons_zero, List.set_cons_succ]
                refine held_run 10 (some 66) (.fieldAddr 39 (.tmp 65) 2) ?v11_73_84 (by rfl) (by kernel_rfl) (by kernel_rfl) (by kernel_rfl) (fun _ _ _ h => h) (fun o ho w hS => ?y11_73_84) (by assumption) ?r11_73_84
                case y11_73_84 => (try dsimp only at hS); unfold execOp; simp only [ho]; go_simp; try with_reducible rfl
                try simp only [Act.put, List.setIfInBounds_toArray, List.set_cons_zero, List.set_cons_succ]
                refine held_run 11 (some 67) (.load 3 (.tmp 66)) ?v11_73_85 (by rfl) (by kernel_rfl) (by kernel_rfl) (by kernel_rfl) (fun _ _ _ h => h) (fun o ho w hS => ?y11_73_85) (by assumption) ?r11_73_85
                case y11_73_85 => (try dsimp only at hS); unfold execOp; simp only [ho]; go_simp; try with_reducible rfl
                try simp only [Act.put, List.setIfInBounds_toArray, List.set_cons_zero, List.set_cons_succ]
                refine held_run 12 (some 68) (.binOp .lss 3 (.tmp 60) (.tmp 67) 3) ?v11_73_86 (by rfl) (by kernel_rfl) (by kernel_rfl) (by kernel_rfl) (fun _ _ _ h => h) (fun o ho w hS => ?y11_73_86) (by assumption) ?r11_73_86
                case y11_73_86 => (try dsimp only at hS); unfold execOp; simp only [ho]; go_simp; try with_reducible rfl
                try simp only [Act.put, List.setIfInBounds_toArray, List.set_cons_zero, List.set_cons_succ]
                refine held_run 13 (some 69) (.pick (.tmp 58) (.tmp 68) (.const (Value.bool false))) ?v11_73_87 (by rfl) (by kernel_rfl) (by kernel_rfl) (by kernel_rfl) (fun _ _ _ h => h) (fun o ho w hS => ?y11_73_87) (by assumption) ?r11_73_87
                case y11_73_87 => (try dsimp only at hS); unfold execOp; simp only [ho]; go_simp; try with_reducible rfl
                try simp only [Act.put, List.setIfInBounds_toArray, List.set_cons_zero, List.set_cons_succ]
                refine held_run 14 (some 70) (.move (.tmp 69)) ?v11_73_88 (by rfl) (by kernel_rfl) (by kernel_rfl) (by kernel_rfl) (fun _ _ _ h => h) (fun o ho w hS => ?y11_73_88) (by assumption) ?r11_73_88
                case y11_73_88 => (try dsimp only at hS); unfold execOp; simp only [ho]; go_simp; try with_reducible rfl
                try simp only [Act.put, List.setIfInBounds_toArray, List.set_cons_zero, List.set_cons_succ]
                refine held_load 15 (some 71) 27 (.tmp 2) (by rfl) (by kernel_rfl) (by kernel_rfl) (by kernel_rfl) (w.heap.size) 27 #[vn, vl, vr, vb] (fun _ _ _ h => h) (by rfl) (fun _ h => h.1) _ Try.underlying27 rfl (by kernel_rfl) (by assumption) ?_
                try simp only [Act.put, List.setIfInBounds_toArray, List.set_cons_zero, List.set_cons_succ]
                refine held_load 16 (some 72) 30 (.tmp 3) (by rfl) (by kernel_rfl) (by kernel_rfl) (by kernel_rfl) (w.heap.size + 1) 30 #[.slice A1 n1 c1, .slice (some ad) n c, .int .i64 bg] (fun _ _ _ h => h) (by rfl) (fun _ h => h.2.1) _ Try.underlying30 rfl (by kernel_rfl) (by assumption) ?_
                try simp only [Act.put, List.setIfInBounds_toArray, List.set_cons_zero, List.set_cons_succ]
                refine held_run 17 (some 73) (.move (.tmp 5)) ?v11_73_91 (by rfl) (by kernel_rfl) (by kernel_rfl) (by kernel_rfl) (fun _ _ _ h => h) (fun o ho w hS => ?y11_73_91) (by assumption) ?r11_73_91
                case y11_73_91 => (try dsimp only at hS); unfold execOp; simp only [ho]; go_simp; try with_reducible rfl
                try simp only [Act.put, List.setIfInBounds_toArray, List.set_cons_zero, List.set_cons_succ]
                refine held_run 18 (some 74) (.fieldAddr 39 (.tmp 7) 0) ?v11_73_92 (by rfl) (by kernel_rfl) (by kernel_rfl) (by kernel_rfl) (fun _ _ _ h => h) (fun o ho w hS => ?y11_73_92) (by assumption) ?r11_73_92
                case y11_73_92 => (try dsimp only at hS); unfold execOp; simp only [ho]; go_simp; try with_reducible rfl
                try simp only [Act.put, List.setIfInBounds_toArray, List.set_cons_zero, List.set_cons_succ]
                refine held_run 19 (some 75) (.load 3 (.tmp 74)) ?v11_73_93 (by rfl) (by kernel_rfl) (by kernel_rfl) (by kernel_rfl) (fun _ _ _ h => h) (fun o ho w hS => ?y11_73_93) (by assumption) ?r11_73_93
                case y11_73_93 => (try dsimp only at hS); unfold execOp; simp only [ho]; go_simp; try with_reducible rfl
                try simp only [Act.put, List.setIfInBounds_toArray, List.set_cons_zero, List.set_cons_succ]
                refine held_call 20 (some 76) 67 [(.tmp 71), (.tmp 72), (.tmp 73), (.tmp 75)] #[27, 30, 25, 3] #[.agg #[vn, vl, vr, vb], .agg #[.slice A1 n1 c1, .slice (some ad) n c, .int .i64 bg], .slice Av nv cv, .int .i64 run] (by rfl) (by rfl) (by kernel_rfl) Try.func67 (by rfl) (by rfl) ?_
                refine (HC.out run (.slice Av nv cv) T _ HMd.out HRvd.out HDrd.out).mono ?_
                rw [HP.out]
                rintro e w2 ⟨rfl, hb2⟩
                have hbb2 : Below w1.heap.size w1 w2 := (Below.refl w1.heap.size w1).drew.trans hb2
                have HO2 : Hid (OwnI w2 wb.heap.size (.slice Av nv cv) T) := hide (own_below HO1.out hbb2 (Nat.le_refl _))
                have HY2 := Lib.hid (HY1.out.below hbb2 hly1)
                have HB2 := Lib.hid (HB1.out.trans (hbb2.mono hsz1))
                have HW2 := Lib.hid (HW1.out.trans (hbb2.mono HW1.out.size))
                have hsz2 : wb.heap.size ≤ w2.heap.size := Nat.le_trans hsz1 hbb2.size
                have HX02 := Lib.hid (HX01.out.below hbb2 (Nat.lt_of_lt_of_le hxx0 hsz1))
                have HX12 := Lib.hid (HX11.out.below hbb2 (Nat.lt_of_lt_of_le hxx1 hsz1))
                have HM2 := Lib.hid (HM1.out.now hbb2)
                have HR12 := Lib.hid (HR11.out.now hbb2)
                have HR2 := Lib.hid (HR1.out.now hbb2)
                have HRv2 := Lib.hid (HRv1.out.now hbb2)
                have f0 : w2.cell? ⟨wo.heap.size, 0, none⟩ = some (.int .i64 run) := HY2.out.cell 0
                have hH2 : (fun W => Blk W w.heap.size 27 #[vn, vl, vr, vb] ∧ Blk W (w.heap.size + 1) 30 #[.slice A1 n1 c1, .slice (some ad) n c, .int .i64 bg] ∧ Blk W wo.heap.size 39 #[.int .i64 run, .int .i64 byy, .int .i64 att, .int .i64 fnd] ∧ W.cell? ⟨wo.heap.size, 0, none⟩ = some (.int .i64 run) ∧ W.cell? ⟨wo.heap.size, 2, none⟩ = some (.int .i64 att) ∧ W.cell? ⟨w.heap.size + 1, 1, none⟩ = some (.slice (some ad) n c) ∧ W.cell? ⟨(ad.add (k' * 4)).block, (ad.add (k' * 4)).off + 2, none⟩ = some (.int .i64 p)) w2 := ⟨HX02.out, HX12.out, HY2.out, f0, HY2.out.cell 2, HX12.out.cell 1, (hbb2.cell (p := ⟨(ad.add (k' * 4)).block, (ad.add (k' * 4)).off + 2, none⟩) (by show (ad.add (k' * 4)).block < _; rw [block_of_add]; exact Nat.lt_of_lt_of_le hab HWp.out.size)).trans cp⟩
                refine ⟨_, rfl, hH2, ?_⟩
                clear hb2 hbb2
                try simp only [Act.put, List.setIfInBounds_toArray, List.set_cons_zero, List.set_cons_succ]
                refine held_run 21 (some 77) (.unOp .not 4 (.tmp 76)) ?v11_73_95 (by rfl) (by kernel_rfl) (by kernel_rfl) (by kernel_rfl) (fun _ _ _ h => h) (fun o ho w hS => ?y11_73_95) (by assumption) ?r11_73_95
                case y11_73_95 => (try dsimp only at hS); unfold execOp; simp only [ho]; go_simp; try with_reducible rfl
                try simp only [Act.put, List.setIfInBounds_toArray, List.set_cons_zero, List.set_cons_succ]
                refine held_run 22 (some 78) (.pick (.tmp 70) (.const (Value.bool true)) (.tmp 77)) ?v11_73_96 (by rfl) (by kernel_rfl) (by kernel_rfl) (by kernel_rfl) (fun _ _ _ h => h) (fun o ho w hS => ?y11_73_96) (by assumption) ?r11_73_96
                case y11_73_96 => (try dsimp only at hS); unfold execOp; simp only [ho]; go_simp; try with_reducible rfl
                try simp only [Act.put, List.setIfInBounds_toArray, List.set_cons_zero, List.set_cons_succ]
                refine wpAnyH_done (by kernel_rfl) ?_ _
                clear hwr
                go_wp2_with fail
                go_ret
                exact ⟨ret_i HZ.out.symm, HW2.out⟩
              | true =>
                have HGo : Hid (r = errF f (k + 1) (n - (k + 1)) ∧ ∀ i, i < k + 1 → f i = 0) := hide (HNo.out (by rw [HVk.out, if_neg (by simp), if_neg (by simp), if_neg (not_not_intro HIn.out), if_neg (fun h => h.elim (fun h => h3 h.2) (fun h => by cases h))]))
                go_wp2_with fail
                refine wp_region_held_drew (S := fun W => Blk W w.heap.size 27 #[vn, vl, vr, vb] ∧ Blk W (w.heap.size + 1) 30 #[.slice A1 n1 c1, .slice (some ad) n c, .int .i64 bg] ∧ Blk W wo.heap.size 39 #[.int .i64 run, .int .i64 byy, .int .i64 att, .int .i64 fnd] ∧ W.cell? ⟨wo.heap.size, 0, none⟩ = some (.int .i64 run) ∧ W.cell? ⟨wo.heap.size, 2, none⟩ = some (.int .i64 att) ∧ W.cell? ⟨w.heap.size + 1, 1, none⟩ = some (.slice (some ad) n c) ∧ W.cell? ⟨(ad.add (k' * 4)).block, (ad.add (k' * 4)).off + 2, none⟩ = some (.int .i64 p)) (by kernel_rfl) (⟨HX01.out, HX11.out, HY1.out, e0, e2, s1, cp⟩) (fun hHeld => ?_)
                refine held_run 0 (some 56) (.move (.tmp 6)) ?v11_97_98 (by rfl) (by kernel_rfl) (by kernel_rfl) (by kernel_rfl) (fun _ _ _ h => h) (fun o ho w hS => ?y11_97_98) (by assumption) ?r11_97_98
                case y11_97_98 => (try dsimp only at hS); unfold execOp; simp only [ho]; go_simp; try with_reducible rfl
                try simp only [Act.put, List.setIfInBounds_toArray, List.set_cons_zero, List.set_cons_succ]
                refine held_run 1 (some 57) (.binOp .gtr 3 (.tmp 56) (.const (.int .i64 0)) 3) ?v11_97_99 (by rfl) (by kernel_rfl) (by kernel_rfl) (by kernel_rfl) (fun _ _ _ h => h) (fun o ho w hS => ?y11_97_99) (by assumption) ?r11_97_99
                case y11_97_99 => (try dsimp only at hS); unfold execOp; simp only [ho]; go_simp; try with_reducible rfl
                try simp only [Act.put, List.setIfInBounds_toArray, List.set_cons_zero, List.set_cons_succ]
                refine held_run 2 (some 58) (.move (.tmp 57)) ?v11_97_100 (by rfl) (by kernel_rfl) (by kernel_rfl) (by kernel_rfl) (fun _ _ _ h => h) (fun o ho w hS => ?y11_97_100) (by assumption) ?r11_97_100
                case y11_97_100 => (try dsimp only at hS); unfold execOp; simp only [ho]; go_simp; try with_reducible rfl
                try simp only [Act.put, List.setIfInBounds_toArray, List.set_cons_zero, List.set_cons_succ]
                refine held_run 3 (some 59) (.fieldAddr 39 (.tmp 7) 2) ?v11_97_101 (by rfl) (by kernel_rfl) (by kernel_rfl) (by kernel_rfl) (fun _ _ _ h => h) (fun o ho w hS => ?y11_97_101) (by assumption) ?r11_97_101
                case y11_97_101 => (try dsimp only at hS); unfold execOp; simp only [ho]; go_simp; try with_reducible rfl
                try simp only [Act.put, List.setIfInBounds_toArray, List.set_cons_zero, List.set_cons_succ]
                refine held_run 4 (some 60) (.load 3 (.tmp 59)) ?v11_97_102 (by rfl) (by kernel_rfl) (by kernel_rfl) (by kernel_rfl) (fun _ _ _ h => h) (fun o ho w hS => ?y11_97_102) (by assumption) ?r11_97_102
                case y11_97_102 => (try dsimp only at hS); unfold execOp; simp only [ho]; go_simp; try with_reducible rfl
                try simp only [Act.put, List.setIfInBounds_toArray, List.set_cons_zero, List.set_cons_succ]
                refine held_run 5 (some 61) (.fieldAddr 30 (.tmp 3) 1) ?v11_97_103 (by rfl) (by kernel_rfl) (by kernel_rfl) (by kernel_rfl) (fun _ _ _ h => h) (fun o ho w hS => ?y11_97_103) (by assumption) ?r11_97_103
                case y11_97_103 => (try dsimp only at hS); unfold execOp; simp only [ho]; go_simp; try with_reducible rfl
                try simp only [Act.put, List.setIfInBounds_toArray, List.set_cons_zero, List.set_cons_succ]
                refine held_run 6 (some 62) (.load 28 (.tmp 61)) ?v11_97_104 (by rfl) (by kernel_rfl) (by kernel_rfl) (by kernel_rfl) (fun _ _ _ h => h) (fun o ho w hS => ?y11_97_104) (by assumption) ?r11_97_104
                case y11_97_104 => (try dsimp only at hS); unfold execOp; simp only [ho]; go_simp; try with_reducible rfl
                try simp only [Act.put, List.setIfInBounds_toArray, List.set_cons_zero, List.set_cons_succ]
                refine held_run 7 (some 63) (.move (.tmp 6)) ?v11_97_105 (by rfl) (by kernel_rfl) (by kernel_rfl) (by kernel_rfl) (fun _ _ _ h => h) (fun o ho w hS => ?y11_97_105) (by assumption) ?r11_97_105
                case y11_97_105 => (try dsimp only at hS); unfold execOp; simp only [ho]; go_simp; try with_reducible rfl
                try simp only [Act.put, List.setIfInBounds_toArray, List.set_cons_zero, List.set_cons_succ]
                refine held_run 8 (some 64) (.binOp .sub 3 (.tmp 63) (.const (.int .i64 1)) 3) ?v11_97_106 (by rfl) (by kernel_rfl) (by kernel_rfl) (by kernel_rfl) (fun _ _ _ h => h) (fun o ho w hS => ?y11_97_106) (by assumption) ?r11_97_106
                case y11_97_106 => (try dsimp only at hS); unfold execOp; simp only [ho]; go_simp; try with_reducible rfl
                try simp only [Act.put, List.setIfInBounds_toArray, List.set_cons_zero, List.set_cons_succ]
                refine held_run 9 (some 65) (.indexAddr 28 (.tmp 62) (.tmp 64)) ?v11_97_107 (by rfl) (by kernel_rfl) (by kernel_rfl) (by kernel_rfl) (fun _ _ _ h => h) (fun o ho w hS => ?y11_97_107) (by assumption) ?r11_97_107
                case y11_97_107 => (try dsimp only at hS); unfold execOp; simp only [ho]; go_simp; try with_reducible rfl
                try simp only [Act.put, List.setIfInBounds_toArray, List.set_cons_zero, List.set_cons_succ]
                refine held_run 10 (some 66) (.fieldAddr 39 (.tmp 65) 2) ?v11_97_108 (by rfl) (by kernel_rfl) (by kernel_rfl) (by kernel_rfl) (fun _ _ _ h => h) (fun o ho w hS => ?y11_97_108) (by assumption) ?r11_97_108
                case y11_97_108 => (try dsimp only at hS); unfold execOp; simp only [ho]; go_simp; try with_reducible rfl
                try simp only [Act.put, List.setIfInBounds_toArray, List.set_cons_zero, List.set_cons_succ]
                refine held_run 11 (some 67) (.load 3 (.tmp 66)) ?v11_97_109 (by rfl) (by kernel_rfl) (by kernel_rfl) (by kernel_rfl) (fun _ _ _ h => h) (fun o ho w hS => ?y11_97_109) (by assumption) ?r11_97_109
                case y11_97_109 => (try dsimp only at hS); unfold execOp; simp only [ho]; go_simp; try with_reducible rfl
                try simp only [Act.put, List.setIfInBounds_toArray, List.set_cons_zero, List.set_cons_succ]
                refine held_run 12 (some 68) (.binOp .lss 3 (.tmp 60) (.tmp 67) 3) ?v11_97_110 (by rfl) (by kernel_rfl) (by kernel_rfl) (by kernel_rfl) (fun _ _ _ h => h) (fun o ho w hS => ?y11_97_110) (by assumption) ?r11_97_110
                case y11_97_110 => (try dsimp only at hS); unfold execOp; simp only [ho]; go_simp; try with_reducible rfl
                try simp only [Act.put, List.setIfInBounds_toArray, List.set_cons_zero, List.set_cons_succ]
                refine held_run 13 (some 69) (.pick (.tmp 58) (.tmp 68) (.const (Value.bool false))) ?v11_97_111 (by rfl) (by kernel_rfl) (by kernel_rfl) (by kernel_rfl) (fun _ _ _ h => h) (fun o ho w hS => ?y11_97_111) (by assumption) ?r11_97_111
                case y11_97_111 => (try dsimp only at hS); unfold execOp; simp only [ho]; go_simp; try with_reducible rfl
                try simp only [Act.put, List.setIfInBounds_toArray, List.set_cons_zero, List.set_cons_succ]
                refine held_run 14 (some 70) (.move (.tmp 69)) ?v11_97_112 (by rfl) (by kernel_rfl) (by kernel_rfl) (by kernel_rfl) (fun _ _ _ h => h) (fun o ho w hS => ?y11_97_112) (by assumption) ?r11_97_112
                case y11_97_112 => (try dsimp only at hS); unfold execOp; simp only [ho]; go_simp; try with_reducible rfl
                try simp only [Act.put, List.setIfInBounds_toArray, List.set_cons_zero, List.set_cons_succ]
                refine held_load 15 (some 71) 27 (.tmp 2) (by rfl) (by kernel_rfl) (by kernel_rfl) (by kernel_rfl) (w.heap.size) 27 #[vn, vl, vr, vb] (fun _ _ _ h => h) (by rfl) (fun _ h => h.1) _ Try.underlying27 rfl (by kernel_rfl) (by assumption) ?_
                try simp only [Act.put, List.setIfInBounds_toArray, List.set_cons_zero, List.set_cons_succ]
                refine held_load 16 (some 72) 30 (.tmp 3) (by rfl) (by kernel_rfl) (by kernel_rfl) (by kernel_rfl) (w.heap.size + 1) 30 #[.slice A1 n1 c1, .slice (some ad) n c, .int .i64 bg] (fun _ _ _ h => h) (by rfl) (fun _ h => h.2.1) _ Try.underlying30 rfl (by kernel_rfl) (by assumption) ?_
                try simp only [Act.put, List.setIfInBounds_toArray, List.set_cons_zero, List.set_cons_succ]
                refine held_run 17 (some 73) (.move (.tmp 5)) ?v11_97_115 (by rfl) (by kernel_rfl) (by kernel_rfl) (by kernel_rfl) (fun _ _ _ h => h) (fun o ho w hS => ?y11_97_115) (by assumption) ?r11_97_115
                case y11_97_115 => (try dsimp only at hS); unfold execOp; simp only [ho]; go_simp; try with_reducible rfl
                try simp only [Act.put, List.setIfInBounds_toArray, List.set_cons_zero, List.set_cons_succ]
                refine held_run 18 (some 74) (.fieldAddr 39 (.tmp 7) 0) ?v11_97_116 (by rfl) (by kernel_rfl) (by kernel_rfl) (by kernel_rfl) (fun _ _ _ h => h) (fun o ho w hS => ?y11_97_116) (by assumption) ?r11_97_116
                case y11_97_116 => (try dsimp only at hS); unfold execOp; simp only [ho]; go_simp; try with_reducible rfl
                try simp only [Act.put, List.setIfInBounds_toArray, List.set_cons_zero, List.set_cons_succ]
                refine held_run 19 (some 75) (.load 3 (.tmp 74)) ?v11_97_117 (by rfl) (by kernel_rfl) (by kernel_rfl) (by kernel_rfl) (fun _ _ _ h => h) (fun o ho w hS => ?y11_97_117) (by assumption) ?r11_97_117
                case y11_97_117 => (try dsimp only at hS); unfold execOp; simp only [ho]; go_simp; try with_reducible rfl
                try simp only [Act.put, List.setIfInBounds_toArray, List.set_cons_zero, List.set_cons_succ]
                refine held_call 20 (some 76) 67 [(.tmp 71), (.tmp 72), (.tmp 73), (.tmp 75)] #[27, 30, 25, 3] #[.agg #[vn, vl, vr, vb], .agg #[.slice A1 n1 c1, .slice (some ad) n c, .int .i64 bg], .slice Av nv cv, .int .i64 run] (by rfl) (by rfl) (by kernel_rfl) Try.func67 (by rfl) (by rfl) ?_
                refine (HC.out run (.slice Av nv cv) T _ HMd.out HRvd.out HDrd.out).mono ?_
                rw [HP.out]
                rintro e w2 ⟨rfl, hb2⟩
                have hbb2 : Below w1.heap.size w1 w2 := (Below.refl w1.heap.size w1).drew.trans hb2
                have HO2 : Hid (OwnI w2 wb.heap.size (.slice Av nv cv) T) := hide (own_below HO1.out hbb2 (Nat.le_refl _))
                have HY2 := Lib.hid (HY1.out.below hbb2 hly1)
                have HB2 := Lib.hid (HB1.out.trans (hbb2.mono hsz1))
                have HW2 := Lib.hid (HW1.out.trans (hbb2.mono HW1.out.size))
                have hsz2 : wb.heap.size ≤ w2.heap.size := Nat.le_trans hsz1 hbb2.size
                have HX02 := Lib.hid (HX01.out.below hbb2 (Nat.lt_of_lt_of_le hxx0 hsz1))
                have HX12 := Lib.hid (HX11.out.below hbb2 (Nat.lt_of_lt_of_le hxx1 hsz1))
                have HM2 := Lib.hid (HM1.out.now hbb2)
                have HR12 := Lib.hid (HR11.out.now hbb2)
                have HR2 := Lib.hid (HR1.out.now hbb2)
                have HRv2 := Lib.hid (HRv1.out.now hbb2)
                have f0 : w2.cell? ⟨wo.heap.size, 0, none⟩ = some (.int .i64 run) := HY2.out.cell 0
                have hH2 : (fun W => Blk W w.heap.size 27 #[vn, vl, vr, vb] ∧ Blk W (w.heap.size + 1) 30 #[.slice A1 n1 c1, .slice (some ad) n c, .int .i64 bg] ∧ Blk W wo.heap.size 39 #[.int .i64 run, .int .i64 byy, .int .i64 att, .int .i64 fnd] ∧ W.cell? ⟨wo.heap.size, 0, none⟩ = some (.int .i64 run) ∧ W.cell? ⟨wo.heap.size, 2, none⟩ = some (.int .i64 att) ∧ W.cell? ⟨w.heap.size + 1, 1, none⟩ = some (.slice (some ad) n c) ∧ W.cell? ⟨(ad.add (k' * 4)).block, (ad.add (k' * 4)).off + 2, none⟩ = some (.int .i64 p)) w2 := ⟨HX02.out, HX12.out, HY2.out, f0, HY2.out.cell 2, HX12.out.cell 1, (hbb2.cell (p := ⟨(ad.add (k' * 4)).block, (ad.add (k' * 4)).off + 2, none⟩) (by show (ad.add (k' * 4)).block < _; rw [block_of_add]; exact Nat.lt_of_lt_of_le hab HWp.out.size)).trans cp⟩
                refine ⟨_, rfl, hH2, ?_⟩
                clear hb2 hbb2
                try simp only [Act.put, List.setIfInBounds_toArray, List.set_cons_zero, List.set_cons_succ]
                refine held_run 21 (some 77) (.unOp .not 4 (.tmp 76)) ?v11_97_119 (by rfl) (by kernel_rfl) (by kernel_rfl) (by kernel_rfl) (fun _ _ _ h => h) (fun o ho w hS => ?y11_97_119) (by assumption) ?r11_97_119
                case y11_97_119 => (try dsimp only at hS); unfold execOp; simp only [ho]; go_simp; try with_reducible rfl
                try simp only [Act.put, List.setIfInBounds_toArray, List.set_cons_zero, List.set_cons_succ]
                refine held_run 22 (some 78) (.pick (.tmp 70) (.const (Value.bool true)) (.tmp 77)) ?v11_97_120 (by rfl) (by kernel_rfl) (by kernel_rfl) (by kernel_rfl) (fun _ _ _ h => h) (fun o ho w hS => ?y11_97_120) (by assumption) ?r11_97_120
                case y11_97_120 => (try dsimp only at hS); unfold execOp; simp only [ho]; go_simp; try with_reducible rfl
                try simp only [Act.put, List.setIfInBounds_toArray, List.set_cons_zero, List.set_cons_succ]
                refine wpAnyH_done (by kernel_rfl) ?_ _
                clear hwr
                go_wp2_with
                  (at_builtin
                   refine wpList_app_lit ei_ints rfl (.tmp 79) (.tmp 82) rfl wb.heap.size (.slice Av nv cv) nv (T.map (Value.int .i64)) rfl (HO2.out.row HTv.out) 1 rfl rfl (by simp [Value.oneCell']) (by simp only [maxLen]; omega) (by omega) hsz2 ?_
                   intro v3 w3 hown3 hb3 _ _
                   have HO3 : Hid (OwnI w3 wb.heap.size v3 (T ++ [run])) := hide (OwnI.mk' hown3 (by rw [List.length_append, HTv.out]; rfl) (by simp))
                   have HB3 := Lib.hid (HB2.out.trans hb3)
                   clear hown3 hb3)
                go_roundw
                case rel => exact ⟨k + 1, by omega, by go_num, by rw [HTs.out]; exact HO3.out, HGo.out.1, HGo.out.2, HB3.out⟩
                case measure => simp [intOf]; omega
    · obtain rfl : k = n := by omega
      have HZ : Hid (r = 0) := by have h := HF.out; rw [Nat.sub_self] at h; exact hide h
      go_wp2_with fail
      go_ret
      exact ⟨ret_i HZ.out.symm, HWo.out⟩
end Go.Proofs.Yticoeibccdplaaa
