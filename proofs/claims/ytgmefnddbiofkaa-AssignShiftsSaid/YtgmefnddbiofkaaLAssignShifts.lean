/-
  AssignShifts answers true for every input. Its conditions: none.
-/
import Derived.Test.YtgmefnddbiofkaaAssignA
import Derived.Test.YtgmefnddbiofkaaAssignM
import Derived.Test.YtgmefnddbiofkaaMatOwn
import Derived.Test.YtgmefnddbiofkaaRowMat
namespace Go.Proofs.Ytgmefnddbiofkaa
open Go.ChangeShapes Go.WideShapes Go.ChangeAt Go.RowKit

theorem ei_row : EInfo Try.prog 22 27 1 24 := EInfo.mk' Try.underlying22 (z := .slice none 0 0) (by kernel_rfl) rfl (by omega)
theorem map_take_next (l : List Int) (k : Nat) (h : k < l.length) : (l.take k).map (Value.int .i64) ++ [.int .i64 (l.getD k 0)] = (l.take (k + 1)).map (Value.int .i64) := by
  have e : l.getD k 0 = l[k] := by simp [List.getElem?_eq_getElem h]
  rw [List.take_succ_eq_append_getElem h, e, List.map_append]
  rfl
theorem addF_at (rows : List (List Int)) (row : Nat) (c : Int) (i j : Nat) (h : j < (rows.getD i []).length) : (addF rows row c i).getD j 0 = if i = row then (rows.getD i []).getD j 0 + c else (rows.getD i []).getD j 0 := by
  unfold addF
  split
  · exact getD_add _ _ _ h
  · rfl

set_option maxHeartbeats 400000 in
theorem assignShifts_any (w : World) (mA : Option Addr) (mn mc : Nat) (m : List (List Int)) (m1 : mn ≤ mc) (m2 : mc ≤ maxLen) (mr : Mat w w.heap.size mA mn m) (mw : ∀ r ∈ m, ∀ y ∈ r, (Lit.int .i64 y).wf = true) (row : Int) (hrow : -9223372036854775808 ≤ row ∧ row ≤ 9223372036854775807) (by_ : Int) (hby_ : -9223372036854775808 ≤ by_ ∧ by_ ≤ 9223372036854775807) :
    Calls Try.prog 8 #[.slice mA mn mc, .int .i64 row, .int .i64 by_] w fun e w' => e = .returned (.bool true) ∧ Below w.heap.size w w' := by
  have hml : mn ≤ maxLen := Nat.le_trans m1 m2
  have HM := Lib.hid mr
  have HL := Lib.hid mr.len
  clear mr mw m2
  obtain ⟨s, hs⟩ : ∃ s, rightB m = s := ⟨_, rfl⟩
  cases s with
  | true =>
    have HRM := Lib.hid (rightB_right hs)
    have h8 : mn ≤ 8 := by rw [← HL.out]; exact HRM.out.few
    have HS := Lib.hid hs
    clear hs
    by_cases hall : 0 ≤ row ∧ row < mn ∧ 0 ≤ by_ ∧ by_ ≤ 1000000
    · obtain ⟨hr0, hrn, hb0, hb1'⟩ := hall
      obtain ⟨R, rfl⟩ := Int.eq_ofNat_of_zero_le hr0
      have hRn : R < mn := by omega
      clear hr0 hrow hby_
      have d1 : decide ((R : Int) < 0) = false := by simp
      have d2 : decide ((mn : Int) ≤ (R : Int)) = false := by simp; omega
      have d3 : decide (mn ≤ R) = false := by simp; omega
      have d4 : decide (by_ < 0) = false := by simp; omega
      have d5 : decide (1000000 < by_) = false := by simp; omega
      go_enter Try.func8, Try.ntmps8
      go_wp2_with fail
      with_reducible refine (alive_any _).mono ?_
      rintro e w1 ⟨rfl, hb1⟩
      have HM1 := Lib.hid (HM.out.now hb1)
      go_wp2_with fail
      with_reducible refine (right_b true _ _ _ _ _ _ HM1.out hml HS.out).mono ?_
      rintro e w2 ⟨rfl, hd2⟩
      have hb2 : Below w1.heap.size w1 w2 := by obtain ⟨k, rfl⟩ := hd2; exact below_drewN (Below.refl _ _) k
      have HM2 := Lib.hid (HM1.out.now hb2)
      have hbb2 := hb1.trans (hb2.mono hb1.size)
      clear hd2 hb2
      go_wp2_with fail
      go_loopw [7, 8, 9, 10, 11] (fun v i _ _ _ wr => ∃ (k : Nat) (vs : List Value), k ≤ mn ∧ i = .int .i64 k ∧ wr.ownsRow w2.heap.size 27 1 v k vs ∧ OwnR wr w2.heap.size 3 vs (rowsK (addF m R by_) k) ∧ Below w2.heap.size w2 wr) (fun _ i _ _ _ _ => mn - (intOf i).toNat)
      case atStart => exact ⟨0, [], by omega, rfl, World.ownsRow_nil _ _ _ _, trivial, Below.refl _ _⟩
      case round =>
        obtain ⟨k, vs, hk, rfl, hown, hrows, hbr⟩ := hrel
        obtain ⟨wo, rfl⟩ : ∃ wo : World, wo = wr := ⟨_, rfl⟩
        by_cases hlt : k < mn
        · obtain ⟨ad, a, rc, rfl, hadb, hc, hrl, hrc, hri⟩ := (HM2.out.now hbr).row hlt
          unfold maxLen at hrc
          have hrm : m.getD k [] ∈ m := by simp [List.getElem?_eq_getElem (show k < m.length by rw [HL.out]; exact hlt)]
          have hr8 : (m.getD k []).length ≤ 8 := HRM.out.wide _ hrm
          have HXB : Hid (∀ j, 0 ≤ (m.getD k []).getD j 0 ∧ (m.getD k []).getD j 0 ≤ 1000000) := fun j => ⟨HRM.out.nn _ hrm j, HRM.out.le _ hrm j⟩
          have HK : Hid (rowsK (addF m R by_) (k + 1) = rowsK (addF m R by_) k ++ [addF m R by_ k]) := rowsK_succ _ _
          have HFL : Hid ((addF m R by_ k).length = (m.getD k []).length) := addF_len m R by_ k
          have HFA : Hid (∀ j, j < (m.getD k []).length → (addF m R by_ k).getD j 0 = if k = R then (m.getD k []).getD j 0 + by_ else (m.getD k []).getD j 0) := fun j hj => addF_at m R by_ k j hj
          generalize hr : m.getD k [] = r at *
          generalize hf : addF m R by_ k = f at *
          have HR := Lib.hid hr
          have HF := Lib.hid hf
          obtain ⟨A, c, rfl, hc1, hc2, _⟩ := own_open hown
          have HRI := Lib.hid hri
          have HO := Lib.hid hown
          have HRows := Lib.hid hrows
          clear hr hf hri hown hrows hrm
          go_wp2_with fail
          go_loopw [9, 10, 11] (fun v j _ wr => ∃ jj : Nat, jj ≤ r.length ∧ j = .int .i64 jj ∧ wr.ownsRow wo.heap.size 3 1 v jj ((f.take jj).map (Value.int .i64)) ∧ Below wo.heap.size wo wr) (fun _ j _ _ => r.length - (intOf j).toNat)
          case atStart => exact ⟨0, by omega, rfl, World.ownsRow_nil _ _ _ _, Below.refl _ _⟩
          case round =>
            obtain ⟨j, hj, rfl, hownj, hbj⟩ := hrel
            obtain ⟨wi, rfl⟩ : ∃ wi : World, wi = wr := ⟨_, rfl⟩
            have hcw := (hbj.cell (p := ad.add k) (by rw [block_of_add]; exact hadb)).trans hc
            obtain ⟨A2, c2, rfl, hc21, hc22, _⟩ := own_open hownj
            have HOJ := Lib.hid hownj
            clear hownj
            by_cases hjl : j < r.length
            · obtain ⟨ad2, rfl, _, hcx⟩ := (HRI.out.now hbj).int hjl
              have HN := Lib.hid (map_take_next f j (by rw [HFL.out]; exact hjl))
              have HFJ := Lib.hid (HFA.out j hjl)
              have hxb := HXB.out j
              generalize hx : r.getD j 0 = x at *
              have HX := Lib.hid hx
              clear hx
              by_cases hkR : k = R
              · have hbq : ((k : Int) == (R : Int)) = true := by rw [beq_iff_eq]; omega
                have HV : Hid (f.getD j 0 = x + by_) := by show _ = _; rw [HFJ.out, if_pos hkR]
                clear hkR
                go_wp2_with
                  (at_builtin
                   refine wpList_app _ ei_int rfl (.tmp 69) (.tmp 71) rfl wo.heap.size (.slice A2 j c2) j ((f.take j).map (Value.int .i64)) rfl (HOJ.out.alloc _) (wi.heap.size + 1) (some ⟨wi.heap.size, 0, none⟩) 1 1 [.int .i64 (x + by_)] rfl (Reads.new wi 3 #[.int .i64 (x + by_)] 1 1 rfl) (by simp [Value.oneCell']) (by simp only [maxLen]; omega) (by omega) (by have := hbj.size; simp; omega) ?_
                   intro v4 w4 hown4 hg4 hbw4 hat4
                   have HO4 : Hid (w4.ownsRow wo.heap.size 3 1 v4 (j + 1) ((f.take (j + 1)).map (Value.int .i64))) := by
                     rw [← HV.out, HN.out] at hown4
                     exact hown4
                   have HB4 : Hid (Below wo.heap.size wo w4) := hbj.trans (((Below.refl _ _).alloc hbj.size _).trans hbw4)
                   clear hown4 hg4 hbw4 hat4)
                go_roundw
                case rel => exact ⟨j + 1, by omega, by go_num, HO4.out, HB4.out⟩
                case measure => simp [intOf]; omega
              · have hbq : ((k : Int) == (R : Int)) = false := beq_eq_false_iff_ne.2 (by omega)
                have HV : Hid (f.getD j 0 = x) := by show _ = _; rw [HFJ.out, if_neg hkR]
                clear hkR
                go_wp2_with
                  (at_builtin
                   refine wpList_app _ ei_int rfl (.tmp 69) (.tmp 71) rfl wo.heap.size (.slice A2 j c2) j ((f.take j).map (Value.int .i64)) rfl (HOJ.out.alloc _) (wi.heap.size + 1) (some ⟨wi.heap.size, 0, none⟩) 1 1 [.int .i64 x] rfl (Reads.new wi 3 #[.int .i64 x] 1 1 rfl) (by simp [Value.oneCell']) (by simp only [maxLen]; omega) (by omega) (by have := hbj.size; simp; omega) ?_
                   intro v4 w4 hown4 hg4 hbw4 hat4
                   have HO4 : Hid (w4.ownsRow wo.heap.size 3 1 v4 (j + 1) ((f.take (j + 1)).map (Value.int .i64))) := by
                     rw [← HV.out, HN.out] at hown4
                     exact hown4
                   have HB4 : Hid (Below wo.heap.size wo w4) := hbj.trans (((Below.refl _ _).alloc hbj.size _).trans hbw4)
                   clear hown4 hg4 hbw4 hat4)
                go_roundw
                case rel => exact ⟨j + 1, by omega, by go_num, HO4.out, HB4.out⟩
                case measure => simp [intOf]; omega
            · obtain rfl : j = r.length := by omega
              have HO4 : Hid (wi.ownsRow w2.heap.size 3 1 (.slice A2 r.length c2) f.length (f.map (Value.int .i64))) := by
                have h := own_mono HOJ.out (base' := w2.heap.size) hbr.size
                rw [List.take_of_length_le (by rw [HFL.out]; exact Nat.le_refl _)] at h
                rw [HFL.out]
                exact hide h
              have HOut := Lib.hid (own_below HO.out hbj (Nat.le_refl _))
              have HRows4 := Lib.hid (OwnR.snoc (OwnR.below HRows.out hbj (Nat.le_refl _)) HO4.out)
              go_wp2_with
                (at_builtin
                 refine wpList_app _ ei_row rfl (.tmp 73) (.tmp 75) rfl w2.heap.size (.slice A k c) k vs rfl (HOut.out.alloc _) (wi.heap.size + 1) (some ⟨wi.heap.size, 0, none⟩) 1 1 [.slice A2 r.length c2] rfl (Reads.new wi 27 #[.slice A2 r.length c2] 1 1 rfl) (by simp [Value.oneCell']) (by simp only [maxLen]; omega) (by omega) (by have := hbj.size; have := hbr.size; simp; omega) ?_
                 intro v5 w5 hown5 hg5 hbw5 hat5
                 have HO5 := Lib.hid hown5
                 have HR5 : Hid (OwnR w5 w2.heap.size 3 (vs ++ [.slice A2 r.length c2]) (rowsK (addF m R by_) (k + 1))) := by
                   have h := OwnR.other (OwnR.alloc HRows4.out _) (HOut.out.alloc _) (by decide) hg5
                   show OwnR _ _ _ _ _
                   rw [HK.out]
                   exact h
                 have HB5 : Hid (Below w2.heap.size w2 w5) := by
                   have h4 := hbr.trans (hbj.mono hbr.size)
                   exact (h4.alloc h4.size _).trans hbw5
                 clear hown5 hg5 hbw5 hat5)
              go_roundw
              case rel => exact ⟨k + 1, _, by omega, by go_num, HO5.out, HR5.out, HB5.out⟩
              case measure => simp [intOf]; omega
        · obtain rfl : k = mn := by omega
          obtain ⟨A, c, rfl, hc1, hc2, _⟩ := own_open hown
          have hM0 := Mat.of_rows hown hrows.rowsV
          have HM3 := Lib.hid (HM2.out.now hbr)
          have HW : Hid (Mat wo wo.heap.size A k (rowsK (addF m R by_) m.length)) := by rw [HL.out]; exact hM0
          have hbb3 := hbb2.trans (hbr.mono hbb2.size)
          have herr := addF_err HRM.out R by_
          clear hown hrows hM0 hbr
          go_wp2_with fail
          with_reducible refine (best_ok _ _ _ _ _ HM3.out HRM.out).mono ?_
          rintro e w4 ⟨p, n, vA, vc, rfl, hbest, hv1, hv2, hvi, hb4⟩
          have HW4 := Lib.hid (HW.out.now hb4)
          have hbb4 := hbb3.trans (hb4.mono hbb3.size)
          have HAB := Lib.hid (addF_best HRM.out R by_ (by rw [HL.out]; omega) hbest)
          have hnb : 0 ≤ n ∧ n ≤ 8000000 := by
            have h1 := sumT_bd HRM.out (intsN p) (intsN p).length
            rw [sumT_costA m p ((mem_allA _ _ _ _).1 hbest.mem).1, hbest.cost, intsN_len, ((mem_allA _ _ _ _).1 hbest.mem).1] at h1
            have := HRM.out.few
            omega
          have hpl : p.length ≤ 8 := by
            have := ((mem_allA _ _ _ _).1 hbest.mem).1
            have := HRM.out.few
            omega
          have HV := Lib.hid hvi
          clear hbest hvi hbb3
          unfold maxLen at hv2
          rcases herr with hx | hx
          · have HRW := Lib.hid (errR_ok hx)
            clear hx
            go_wp2_with fail
            with_reducible refine (best_ok _ _ _ _ _ HW4.out HRW.out).mono ?_
            rintro e w5 ⟨q, b, uA, uc, rfl, hbest2, hu1, hu2, hui, hb5⟩
            obtain ⟨rfl, rfl⟩ := HAB.out.unique hbest2
            have hbb5 := hbb4.trans (hb5.mono hbb4.size)
            have HV5 := Lib.hid (HV.out.now hb5)
            have HU := Lib.hid hui
            have hbq : ((n + by_) == (n + by_)) = true := by simp
            unfold maxLen at hu2
            clear hbest2 hui hb5
            go_wp2_with fail
            with_reducible refine (same_b true _ _ _ _ _ _ _ _ _ _ _ HV5.out HU.out (by unfold maxLen; omega) (by simp)).mono ?_
            rintro e w6 ⟨rfl, j, rfl⟩
            go_wp2_with fail
            go_ret
            exact ⟨rfl, below_drewN hbb5 _⟩
          · have HX := Lib.hid hx
            clear hx
            go_wp2_with fail
            with_reducible refine (best_err _ _ _ _ _ HW4.out (by omega) 2 HX.out (by omega)).mono ?_
            rintro e w5 ⟨rfl, hb5⟩
            have hbb5 := hbb4.trans (hb5.mono hbb4.size)
            clear hb5
            go_wp2_with fail
            go_ret
            exact ⟨rfl, hbb5⟩
    · have hbad : row < 0 ∨ (0 ≤ row ∧ (mn : Int) ≤ row) ∨ (0 ≤ row ∧ row < mn ∧ by_ < 0) ∨ (0 ≤ row ∧ row < mn ∧ 0 ≤ by_ ∧ 1000000 < by_) := by omega
      clear hall
      rcases hbad with h1 | ⟨h1, h2⟩ | ⟨h1, h2, h3⟩ | ⟨h1, h2, h3, h4⟩
      all_goals
        go_enter Try.func8, Try.ntmps8
        go_wp2_with fail
        with_reducible refine (alive_any _).mono ?_
        rintro e w1 ⟨rfl, hb1⟩
        have HM1 := Lib.hid (HM.out.now hb1)
        go_wp2_with fail
        with_reducible refine (right_b true _ _ _ _ _ _ HM1.out hml HS.out).mono ?_
        rintro e w2 ⟨rfl, k, rfl⟩
        go_wp2_with fail
        go_ret
        exact ⟨rfl, below_drewN hb1 _⟩
  | false =>
    have HS := Lib.hid hs
    clear hs
    go_enter Try.func8, Try.ntmps8
    go_wp2_with fail
    with_reducible refine (alive_any _).mono ?_
    rintro e w1 ⟨rfl, hb1⟩
    have HM1 := Lib.hid (HM.out.now hb1)
    go_wp2_with fail
    with_reducible refine (right_b false _ _ _ _ _ _ HM1.out hml HS.out).mono ?_
    rintro e w2 ⟨rfl, k, rfl⟩
    go_wp2_with fail
    go_ret
    exact ⟨rfl, below_drewN hb1 _⟩


theorem own_assignShifts : ownKnob Try.prog.godebug = none := by kernel_rfl
theorem laidOut_assignShifts : laidOutB Try.prog = true := by kernel_rfl
set_option maxRecDepth 100000 in
theorem assignShifts_lifted (os : Os) (started : os.Started) (H : Type) (enc : TypeId × Value → H) :
    ReturnsInHanded {} Try.checked os 8 .any (Rows.assignShiftsSpec.pre6 enc Try.prog Try.f8 Rows.assignShiftsRow.domain false) (Rows.assignShiftsSpec.post enc Try.prog Try.f8 false true false false) := by
  refine returnsInHanded_of_change (C := Try.checked) own_assignShifts started (by kernel_rfl) Try.func8
    (ChangeSpec.witness6 (enc := enc) (C := Try.checked) false ⟨#[], #[.slice none 0 0, .int .i64 0, .int .i64 0], []⟩ 8 (by kernel_rfl) (by kernel_rfl) (by kernel_rfl) (by kernel_rfl)) ?_
  intro W base args ds gs before hval0 hW hcnd _
  have hval : ∀ (j : Nat) t v, Try.f8.params[j]? = some t → args[j]? = some v → Value.okWide Try.prog W .any base t v := hval0
  have hW' := hW
  obtain ⟨p, q, hA0, hV, rfl, hfz, hnd⟩ := hW
  have hA : DataW.TrodAll enc Try.prog W 0 (fun _ => true) true Try.f8.params.toList args.toList ds p := hA0
  rw [Try.params8] at hA hval
  obtain ⟨v0, vs0, d0, ds0, p0, q0, hargs, rfl, rfl, h0, r0⟩ := trodAll_cons hA
  obtain ⟨v1, vs1, d1, ds1, p1, q1, rfl, rfl, rfl, h1, r1⟩ := trodAll_cons r0
  obtain ⟨v2, vs2, d2, ds2, p2, q2, rfl, rfl, rfl, h2, r2⟩ := trodAll_cons r1
  obtain ⟨rfl, rfl, rfl⟩ := trodAll_nil r2
  obtain rfl : args = #[v0, v1, v2] := by cases args; simp_all
  obtain ⟨rfl, rfl⟩ := trodVars_none hV
  obtain ⟨mA, mn, mc, m, rfl, m1, m2, mr, mw⟩ := open_mat Try.underlying22 Try.underlying27 Try.underlying3 (by kernel_rfl) (by kernel_rfl) (hval 0 22 v0 rfl rfl) h0
  obtain ⟨row, rfl, row0, row1⟩ := open_i64 Try.underlying3 (hval 1 3 v1 rfl rfl) h1
  obtain ⟨by_, rfl, by_0, by_1⟩ := open_i64 Try.underlying3 (hval 2 3 v2 rfl rfl) h2
  refine (assignShifts_any W mA mn mc m m1 m2 mr mw row ⟨row0, row1⟩ by_ ⟨by_0, by_1⟩).mono fun e W' ⟨he, hb⟩ => ?_
  subst he
  exact ⟨_, rfl, law_post laidOut_assignShifts (by kernel_rfl) rfl rfl Try.underlying4 hW' rfl hb⟩

theorem assignShifts_holds : Rows.AssignShiftsSaid :=
  OpenClaim.holds_of_wide 8 Try.f8 rfl rfl rfl rfl rfl rfl rfl ⟨rfl, rfl, rfl, rfl, rfl⟩ rfl rfl rfl rfl rfl (by kernel_rfl) Try.func8 (by kernel_rfl)
    (of_decide_eq_true (by kernel_rfl)) (by unfold Func.isWrapper; rw [if_neg (by decide +kernel)]; exact ⟨rfl, rfl⟩)
    (fun os started H enc _ => assignShifts_lifted os started H enc)
#print axioms assignShifts_holds
end Go.Proofs.Ytgmefnddbiofkaa
