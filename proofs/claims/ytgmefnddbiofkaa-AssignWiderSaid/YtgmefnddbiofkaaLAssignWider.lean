/-
  AssignWider answers true for every input. Its conditions: none.
-/
import Derived.Test.YtgmefnddbiofkaaAssignA
import Derived.Test.YtgmefnddbiofkaaAssignM
import Derived.Test.YtgmefnddbiofkaaMatOwn
import Derived.Test.YtgmefnddbiofkaaRowMat
namespace Go.Proofs.Ytgmefnddbiofkaa
open Go.ChangeShapes Go.WideShapes Go.ChangeAt Go.RowKit

theorem ei_row : EInfo Try.prog 22 27 1 24 := EInfo.mk' Try.underlying22 (z := .slice none 0 0) (by kernel_rfl) rfl (by omega)

set_option maxHeartbeats 400000 in
theorem assignWider_any (w : World) (mA : Option Addr) (mn mc : Nat) (m : List (List Int)) (m1 : mn ≤ mc) (m2 : mc ≤ maxLen) (mr : Mat w w.heap.size mA mn m) (mw : ∀ r ∈ m, ∀ y ∈ r, (Lit.int .i64 y).wf = true) (oA : Option Addr) (on oc : Nat) (o : List Int) (o1 : on ≤ oc) (o2 : oc ≤ maxLen) (or : Reads w w.heap.size 1 oA on (o.map (Value.int .i64))) (ow : ∀ z ∈ o, (Lit.int .i64 z).wf = true) :
    Calls Try.prog 7 #[.slice mA mn mc, .slice oA on oc] w fun e w' => e = .returned (.bool true) ∧ Below w.heap.size w w' := by
  have hml : mn ≤ maxLen := Nat.le_trans m1 m2
  unfold maxLen at o2
  have HM := Lib.hid mr
  have HL := Lib.hid mr.len
  have HP := Lib.hid or
  clear mr mw m2 or ow
  obtain ⟨s, hs⟩ : ∃ s, rightB m = s := ⟨_, rfl⟩
  cases s with
  | true =>
    have HRM := Lib.hid (rightB_right hs)
    have h8 : mn ≤ 8 := by rw [← HL.out]; exact HRM.out.few
    have HS := Lib.hid hs
    clear hs
    by_cases hp : on < mn
    · go_enter Try.func7, Try.ntmps7
      go_wp2_with fail
      with_reducible refine (alive_any _).mono ?_
      rintro e w1 ⟨rfl, hb1⟩
      have HM1 := Lib.hid (HM.out.now hb1)
      go_wp2_with fail
      with_reducible refine (right_b true _ _ _ _ _ _ HM1.out hml HS.out).mono ?_
      rintro e w2 ⟨rfl, k, rfl⟩
      go_wp2_with fail
      go_ret
      exact ⟨rfl, below_drewN hb1 _⟩
    · go_enter Try.func7, Try.ntmps7
      go_wp2_with fail
      with_reducible refine (alive_any _).mono ?_
      rintro e w1 ⟨rfl, hb1⟩
      have HM1 := Lib.hid (HM.out.now hb1)
      have HP1 := Lib.hid (HP.out.now hb1)
      go_wp2_with fail
      with_reducible refine (right_b true _ _ _ _ _ _ HM1.out hml HS.out).mono ?_
      rintro e w2 ⟨rfl, hd2⟩
      have hb2 : Below w1.heap.size w1 w2 := by obtain ⟨k, rfl⟩ := hd2; exact below_drewN (Below.refl _ _) k
      have HM2 := Lib.hid (HM1.out.now hb2)
      have HP2 := Lib.hid (HP1.out.now hb2)
      have hbb2 := hb1.trans (hb2.mono hb1.size)
      clear hd2 hb2
      go_wp2_with fail
      go_loopw [5, 6] (fun v i wr => ∃ (k : Nat) (vs : List Value), k ≤ mn ∧ i = .int .i64 k ∧ wr.ownsRow w2.heap.size 27 1 v k vs ∧ OwnR wr w2.heap.size 3 vs (rowsK (wideF m o) k) ∧ Below w2.heap.size w2 wr) (fun _ i _ => mn - (intOf i).toNat)
      case atStart => exact ⟨0, [], by omega, rfl, World.ownsRow_nil _ _ _ _, trivial, Below.refl _ _⟩
      case round =>
        obtain ⟨k, vs, hk, rfl, hown, hrows, hbr⟩ := hrel
        obtain ⟨wo, rfl⟩ : ∃ wo : World, wo = wr := ⟨_, rfl⟩
        by_cases hlt : k < mn
        · obtain ⟨ad, a, rc, rfl, hadb, hc, hrl, hrc, hri⟩ := (HM2.out.now hbr).row hlt
          obtain ⟨ad2, rfl, hadb2, hcx⟩ := (HP2.out.now hbr).int (k := k) (by omega)
          unfold maxLen at hrc
          have hr8 : (m.getD k []).length ≤ 8 := by
            have hm : m.getD k [] ∈ m := by simp [List.getElem?_eq_getElem (show k < m.length by rw [HL.out]; exact hlt)]
            exact HRM.out.wide _ hm
          have HK : Hid (rowsK (wideF m o) (k + 1) = rowsK (wideF m o) k ++ [m.getD k [] ++ [o.getD k 0]]) := rowsK_succ _ _
          generalize hr : m.getD k [] = r at *
          generalize hx : o.getD k 0 = x at *
          have HR := Lib.hid hr
          have HX := Lib.hid hx
          obtain ⟨A, c, rfl, hc1, hc2, _⟩ := own_open hown
          have HRI := Lib.hid hri
          have HO := Lib.hid hown
          have HRows := Lib.hid hrows
          clear hr hx hri hown hrows
          go_wp2_with (first
            | (at_builtin
               refine wpList_app _ ei_int rfl (.tmp 32) (.tmp 36) rfl wo.heap.size (.slice none 0 0) 0 [] rfl (World.ownsRow_nil _ _ _ _) wo.heap.size a r.length rc (r.map (Value.int .i64)) rfl HRI.out (oneCell_ints r) (by simp only [maxLen]; omega) (by omega) (Nat.le_refl _) ?_
               intro v3 w3 hown3 hg3 hbw3 hat3
               simp only [Nat.zero_add, List.nil_append] at hown3
               obtain ⟨A3, c3, rfl, hc31, hc32, _⟩ := own_open hown3
               have hcx3 := (hbw3.cell (p := ad2.add k) (by rw [block_of_add]; exact hadb2)).trans hcx
               have HO3 := Lib.hid hown3
               have HB3 := Lib.hid hbw3
               clear hown3 hg3 hbw3 hat3)
            | (at_builtin
               refine wpList_app _ ei_int rfl (.tmp 39) (.tmp 44) rfl wo.heap.size (.slice A3 r.length c3) r.length (r.map (Value.int .i64)) rfl (HO3.out.alloc _) (w3.heap.size + 1) (some ⟨w3.heap.size, 0, none⟩) 1 1 [.int .i64 x] rfl (Reads.new w3 3 #[.int .i64 x] 1 1 rfl) (by simp [Value.oneCell']) (by simp only [maxLen]; omega) (by omega) (by have := HB3.out.size; simp; omega) ?_
               intro v4 w4 hown4 hg4 hbw4 hat4
               obtain ⟨A4, c4, rfl, hc41, hc42, _⟩ := own_open hown4
               have HO4 : Hid (w4.ownsRow w2.heap.size 3 1 (.slice A4 (r.length + 1) c4) (r ++ [x]).length ((r ++ [x]).map (Value.int .i64))) := by
                   have h := own_mono hown4 (base' := w2.heap.size) hbr.size
                   exact hide (by simpa using h)
               have HB4 : Hid (Below wo.heap.size wo w4) := HB3.out.trans (((Below.refl _ _).alloc HB3.out.size _).trans hbw4)
               have HOut := Lib.hid (own_below HO.out HB4.out (Nat.le_refl _))
               have HRows4 := Lib.hid (OwnR.snoc (OwnR.below HRows.out HB4.out (Nat.le_refl _)) HO4.out)
               clear hown4 hg4 hbw4 hat4)
            | (at_builtin
               refine wpList_app _ ei_row rfl (.tmp 38) (.tmp 46) rfl w2.heap.size (.slice A k c) k vs rfl (HOut.out.alloc _) (w4.heap.size + 1) (some ⟨w4.heap.size, 0, none⟩) 1 1 [.slice A4 (r.length + 1) c4] rfl (Reads.new w4 27 #[.slice A4 (r.length + 1) c4] 1 1 rfl) (by simp [Value.oneCell']) (by simp only [maxLen]; omega) (by omega) (by have := HB4.out.size; have := hbr.size; simp; omega) ?_
               intro v5 w5 hown5 hg5 hbw5 hat5
               have HO5 := Lib.hid hown5
               have HR5 : Hid (OwnR w5 w2.heap.size 3 (vs ++ [.slice A4 (r.length + 1) c4]) (rowsK (wideF m o) (k + 1))) := by
                 have h := OwnR.other (OwnR.alloc HRows4.out _) (HOut.out.alloc _) (by decide) hg5
                 show OwnR _ _ _ _ _
                 rw [HK.out]
                 exact h
               have HB5 : Hid (Below w2.heap.size w2 w5) := by
                 have h4 := hbr.trans (HB4.out.mono hbr.size)
                 exact (h4.alloc h4.size _).trans hbw5
               clear hown5 hg5 hbw5 hat5))
          go_roundw
          case rel => exact ⟨k + 1, _, by omega, by go_num, HO5.out, HR5.out, HB5.out⟩
          case measure => simp [intOf]; omega
        · obtain rfl : k = mn := by omega
          obtain ⟨A, c, rfl, hc1, hc2, _⟩ := own_open hown
          have hM0 := Mat.of_rows hown hrows.rowsV
          have HM3 := Lib.hid (HM2.out.now hbr)
          have HW : Hid (Mat wo wo.heap.size A k (rowsK (wideF m o) m.length)) := by rw [HL.out]; exact hM0
          have hbb3 := hbb2.trans (hbr.mono hbb2.size)
          clear hown hrows hM0 hbr
          go_wp2_with fail
          with_reducible refine (best_ok _ _ _ _ _ HM3.out HRM.out).mono ?_
          rintro e w4 ⟨p, n, vA, vc, rfl, hbest, hv1, hv2, hvi, hb4⟩
          have HW4 := Lib.hid (HW.out.now hb4)
          have hbb4 := hbb3.trans (hb4.mono hbb3.size)
          have HBest := Lib.hid hbest
          clear hbest hvi hb4 hbb3
          obtain ⟨x, hx⟩ : ∃ x, errR (rowsK (wideF m o) m.length) = x := ⟨_, rfl⟩
          by_cases hx0 : x = 0
          · have HRW := Lib.hid (errR_ok (hx.trans hx0))
            go_wp2_with fail
            with_reducible refine (best_ok _ _ _ _ _ HW4.out HRW.out).mono ?_
            rintro e w5 ⟨q, b, uA, uc, rfl, hbest2, hu1, hu2, hui, hb5⟩
            have hle := wider_le HRM.out o HBest.out hbest2
            have hbb5 := hbb4.trans (hb5.mono hbb4.size)
            clear hbest2 hui hb5
            go_wp2_with fail
            go_ret
            exact ⟨rfl, hbb5⟩
          · have HX := Lib.hid hx
            have hxb : (x != 0) = true := by rw [bne_iff_ne]; exact hx0
            have HX0 := Lib.hid hx0
            clear hx hx0
            go_wp2_with fail
            with_reducible refine (best_err _ _ _ _ _ HW4.out (by omega) x HX.out HX0.out).mono ?_
            rintro e w5 ⟨rfl, hb5⟩
            have hbb5 := hbb4.trans (hb5.mono hbb4.size)
            clear hb5
            go_wp2_with fail
            go_ret
            exact ⟨rfl, hbb5⟩
  | false =>
    have HS := Lib.hid hs
    clear hs
    go_enter Try.func7, Try.ntmps7
    go_wp2_with fail
    with_reducible refine (alive_any _).mono ?_
    rintro e w1 ⟨rfl, hb1⟩
    have HM1 := Lib.hid (HM.out.now hb1)
    go_wp2_with fail
    with_reducible refine (right_b false _ _ _ _ _ _ HM1.out hml HS.out).mono ?_
    rintro e w2 ⟨rfl, k, rfl⟩
    go_wp2_with fail
    go_ret
    exact ⟨rfl, below_drewN hb1 _⟩


theorem own_assignWider : ownKnob Try.prog.godebug = none := by kernel_rfl
theorem laidOut_assignWider : laidOutB Try.prog = true := by kernel_rfl
set_option maxRecDepth 100000 in
theorem assignWider_lifted (os : Os) (started : os.Started) (H : Type) (enc : TypeId × Value → H) :
    ReturnsInHanded {} Try.checked os 7 .any (Rows.assignWiderSpec.pre6 enc Try.prog Try.f7 Rows.assignWiderRow.domain false) (Rows.assignWiderSpec.post enc Try.prog Try.f7 false true false false) := by
  refine returnsInHanded_of_change (C := Try.checked) own_assignWider started (by kernel_rfl) Try.func7
    (ChangeSpec.witness6 (enc := enc) (C := Try.checked) false ⟨#[], #[.slice none 0 0, .slice none 0 0], []⟩ 8 (by kernel_rfl) (by kernel_rfl) (by kernel_rfl) (by kernel_rfl)) ?_
  intro W base args ds gs before hval0 hW hcnd _
  have hval : ∀ (j : Nat) t v, Try.f7.params[j]? = some t → args[j]? = some v → Value.okWide Try.prog W .any base t v := hval0
  have hW' := hW
  obtain ⟨p, q, hA0, hV, rfl, hfz, hnd⟩ := hW
  have hA : DataW.TrodAll enc Try.prog W 0 (fun _ => true) true Try.f7.params.toList args.toList ds p := hA0
  rw [Try.params7] at hA hval
  obtain ⟨v0, vs0, d0, ds0, p0, q0, hargs, rfl, rfl, h0, r0⟩ := trodAll_cons hA
  obtain ⟨v1, vs1, d1, ds1, p1, q1, rfl, rfl, rfl, h1, r1⟩ := trodAll_cons r0
  obtain ⟨rfl, rfl, rfl⟩ := trodAll_nil r1
  obtain rfl : args = #[v0, v1] := by cases args; simp_all
  obtain ⟨rfl, rfl⟩ := trodVars_none hV
  obtain ⟨mA, mn, mc, m, rfl, m1, m2, mr, mw⟩ := open_mat Try.underlying22 Try.underlying27 Try.underlying3 (by kernel_rfl) (by kernel_rfl) (hval 0 22 v0 rfl rfl) h0
  obtain ⟨oA, on, oc, o, rfl, o1, o2, or, ow⟩ := open_ints_any Try.underlying27 Try.underlying3 (by kernel_rfl) (hval 1 27 v1 rfl rfl) h1
  refine (assignWider_any W mA mn mc m m1 m2 mr mw oA on oc o o1 o2 or ow).mono fun e W' ⟨he, hb⟩ => ?_
  subst he
  exact ⟨_, rfl, law_post laidOut_assignWider (by kernel_rfl) rfl rfl Try.underlying4 hW' rfl hb⟩

theorem assignWider_holds : Rows.AssignWiderSaid :=
  OpenClaim.holds_of_wide 7 Try.f7 rfl rfl rfl rfl rfl rfl rfl ⟨rfl, rfl, rfl, rfl, rfl⟩ rfl rfl rfl rfl rfl (by kernel_rfl) Try.func7 (by kernel_rfl)
    (of_decide_eq_true (by kernel_rfl)) (by unfold Func.isWrapper; rw [if_neg (by decide +kernel)]; exact ⟨rfl, rfl⟩)
    (fun os started H enc _ => assignWider_lifted os started H enc)
#print axioms assignWider_holds
end Go.Proofs.Ytgmefnddbiofkaa
