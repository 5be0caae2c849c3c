/-
  AssignTotals answers true for every input. Its conditions: none.
-/
import Derived.Test.YtgmefnddbiofkaaAssignA
import Derived.Test.YtgmefnddbiofkaaRowMat
namespace Go.Proofs.Ytgmefnddbiofkaa
open Go.ChangeShapes Go.WideShapes Go.ChangeAt Go.RowKit

set_option maxHeartbeats 400000 in
theorem assignTotals_any (w : World) (mA : Option Addr) (mn mc : Nat) (m : List (List Int)) (m1 : mn ≤ mc) (m2 : mc ≤ maxLen) (mr : Mat w w.heap.size mA mn m) (mw : ∀ r ∈ m, ∀ y ∈ r, (Lit.int .i64 y).wf = true) (pA : Option Addr) (pn pc : Nat) (p : List Int) (p1 : pn ≤ pc) (p2 : pc ≤ maxLen) (pr : Reads w w.heap.size 1 pA pn (p.map (Value.int .i64))) (pw : ∀ z ∈ p, (Lit.int .i64 z).wf = true) :
    Calls Try.prog 4 #[.slice mA mn mc, .slice pA pn pc] w fun e w' => e = .returned (.bool true) ∧ Below w.heap.size w w' := by
  have hml : mn ≤ maxLen := Nat.le_trans m1 m2
  unfold maxLen at p2
  have HM := Lib.hid mr
  have HP := Lib.hid pr
  clear mr mw m2 pr pw
  obtain ⟨s, hs⟩ : ∃ s, rightB m = s := ⟨_, rfl⟩
  cases s with
  | true =>
    by_cases hp : pn ≤ 100
    · have HRM := Lib.hid (rightB_right hs)
      obtain ⟨T, hT⟩ : ∃ T, totP m p = T := ⟨_, rfl⟩
      have HT1 : Hid (∀ B W, Mat W B mA mn m → Ints W B pA pn p → Calls Try.prog 15 #[.slice mA mn mc, .slice pA pn pc] W fun e w' => e = .returned (.tuple #[.int .i64 T.1, .bool T.2]) ∧ W = w') := fun B W hW hP => by
        rw [← hT]; exact total_any mA mn mc B m pA pn pc p W hW HRM.out hP p1 (by omega)
      have HT2 : Hid (∀ B W, Mat W B mA mn m → Ints W B pA pn p → Calls Try.prog 16 #[.slice mA mn mc, .slice pA pn pc] W fun e w' => e = .returned (.tuple #[.int .i64 T.1, .bool T.2]) ∧ ∃ k, w' = W.drewN k) := fun B W hW hP => by
        rw [← hT]; exact rtotal_any mA mn mc B m pA pn pc p W hW HRM.out hP (by omega)
      have HS := Lib.hid hs
      clear hs hT
      go_enter Try.func4, Try.ntmps4
      go_wp2_with fail
      with_reducible refine (alive_any _).mono ?_
      rintro e w1 ⟨rfl, hb1⟩
      have HM1 := Lib.hid (HM.out.now hb1)
      have HP1 := Lib.hid (HP.out.now hb1)
      go_wp2_with fail
      with_reducible refine (right_b true _ _ _ _ _ _ HM1.out hml HS.out).mono ?_
      rintro e w2 ⟨rfl, k, rfl⟩
      go_wp2_with fail
      with_reducible refine (HT1.out _ _ (HM1.out.drewN k) (HP1.out.drewN k)).mono ?_
      rintro e w' ⟨rfl, rfl⟩
      go_wp2_with fail
      with_reducible refine (HT2.out _ _ (HM1.out.drewN k) (HP1.out.drewN k)).mono ?_
      rintro e w3 ⟨rfl, j, rfl⟩
      go_wp2_with fail
      go_ret
      exact ⟨by simp, below_drewN hb1 _⟩
    · have HS := Lib.hid hs
      clear hs
      go_enter Try.func4, Try.ntmps4
      go_wp2_with fail
      with_reducible refine (alive_any _).mono ?_
      rintro e w1 ⟨rfl, hb1⟩
      have HM1 := Lib.hid (HM.out.now hb1)
      go_wp2_with fail
      with_reducible refine (right_b true _ _ _ _ _ _ HM1.out hml HS.out).mono ?_
      rintro e w2 ⟨rfl, k, rfl⟩
      go_wp2_with fail
      go_ret
      exact ⟨rfl, below_drewN hb1 _⟩
  | false =>
    have HS := Lib.hid hs
    clear hs
    go_enter Try.func4, Try.ntmps4
    go_wp2_with fail
    with_reducible refine (alive_any _).mono ?_
    rintro e w1 ⟨rfl, hb1⟩
    have HM1 := Lib.hid (HM.out.now hb1)
    go_wp2_with fail
    with_reducible refine (right_b false _ _ _ _ _ _ HM1.out hml HS.out).mono ?_
    rintro e w2 ⟨rfl, k, rfl⟩
    go_wp2_with fail
    go_ret
    exact ⟨rfl, below_drewN hb1 _⟩


theorem own_assignTotals : ownKnob Try.prog.godebug = none := by kernel_rfl
theorem laidOut_assignTotals : laidOutB Try.prog = true := by kernel_rfl
set_option maxRecDepth 100000 in
theorem assignTotals_lifted (os : Os) (started : os.Started) (H : Type) (enc : TypeId × Value → H) :
    ReturnsInHanded {} Try.checked os 4 .any (Rows.assignTotalsSpec.pre6 enc Try.prog Try.f4 Rows.assignTotalsRow.domain false) (Rows.assignTotalsSpec.post enc Try.prog Try.f4 false true false false) := by
  refine returnsInHanded_of_change (C := Try.checked) own_assignTotals started (by kernel_rfl) Try.func4
    (ChangeSpec.witness6 (enc := enc) (C := Try.checked) false ⟨#[], #[.slice none 0 0, .slice none 0 0], []⟩ 8 (by kernel_rfl) (by kernel_rfl) (by kernel_rfl) (by kernel_rfl)) ?_
  intro W base args ds gs before hval0 hW hcnd _
  have hval : ∀ (j : Nat) t v, Try.f4.params[j]? = some t → args[j]? = some v → Value.okWide Try.prog W .any base t v := hval0
  have hW' := hW
  obtain ⟨p, q, hA0, hV, rfl, hfz, hnd⟩ := hW
  have hA : DataW.TrodAll enc Try.prog W 0 (fun _ => true) true Try.f4.params.toList args.toList ds p := hA0
  rw [Try.params4] at hA hval
  obtain ⟨v0, vs0, d0, ds0, p0, q0, hargs, rfl, rfl, h0, r0⟩ := trodAll_cons hA
  obtain ⟨v1, vs1, d1, ds1, p1, q1, rfl, rfl, rfl, h1, r1⟩ := trodAll_cons r0
  obtain ⟨rfl, rfl, rfl⟩ := trodAll_nil r1
  obtain rfl : args = #[v0, v1] := by cases args; simp_all
  obtain ⟨rfl, rfl⟩ := trodVars_none hV
  obtain ⟨mA, mn, mc, m, rfl, m1, m2, mr, mw⟩ := open_mat Try.underlying22 Try.underlying27 Try.underlying3 (by kernel_rfl) (by kernel_rfl) (hval 0 22 v0 rfl rfl) h0
  obtain ⟨pA, pn, pc, p, rfl, p1, p2, pr, pw⟩ := open_ints_any Try.underlying27 Try.underlying3 (by kernel_rfl) (hval 1 27 v1 rfl rfl) h1
  refine (assignTotals_any W mA mn mc m m1 m2 mr mw pA pn pc p p1 p2 pr pw).mono fun e W' ⟨he, hb⟩ => ?_
  subst he
  exact ⟨_, rfl, law_post laidOut_assignTotals (by kernel_rfl) rfl rfl Try.underlying4 hW' rfl hb⟩

theorem assignTotals_holds : Rows.AssignTotalsSaid :=
  OpenClaim.holds_of_wide 4 Try.f4 rfl rfl rfl rfl rfl rfl rfl ⟨rfl, rfl, rfl, rfl, rfl⟩ rfl rfl rfl rfl rfl (by kernel_rfl) Try.func4 (by kernel_rfl)
    (of_decide_eq_true (by kernel_rfl)) (by unfold Func.isWrapper; rw [if_neg (by decide +kernel)]; exact ⟨rfl, rfl⟩)
    (fun os started H enc _ => assignTotals_lifted os started H enc)
#print axioms assignTotals_holds
end Go.Proofs.Ytgmefnddbiofkaa
