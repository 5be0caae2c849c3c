/-
  AssignRights answers true for every input. Its conditions: none.
-/
import Derived.Test.YtgmefnddbiofkaaAssignA
import Derived.Test.YtgmefnddbiofkaaRowMat
namespace Go.Proofs.Ytgmefnddbiofkaa
open Go.ChangeShapes Go.WideShapes Go.ChangeAt Go.RowKit

set_option maxHeartbeats 400000 in
theorem assignRights_any (w : World) (mA : Option Addr) (mn mc : Nat) (m : List (List Int)) (m1 : mn ≤ mc) (m2 : mc ≤ maxLen) (mr : Mat w w.heap.size mA mn m) (mw : ∀ r ∈ m, ∀ y ∈ r, (Lit.int .i64 y).wf = true) :
    Calls Try.prog 3 #[.slice mA mn mc] w fun e w' => e = .returned (.bool true) ∧ Below w.heap.size w w' := by
  have hml : mn ≤ maxLen := Nat.le_trans m1 m2
  have HM := Lib.hid mr
  have HL := Lib.hid mr.len
  clear mr mw m2
  obtain ⟨s, hs⟩ : ∃ s, smallB m = s := ⟨_, rfl⟩
  cases s with
  | true =>
    have h20 := smallB_len hs
    rw [HL.out] at h20
    obtain ⟨x, hx⟩ : ∃ x, errR m = x := ⟨_, rfl⟩
    have HR : Hid (∀ B W, Mat W B mA mn m → Calls Try.prog 12 #[.slice mA mn mc] W fun e w' => e = .returned (.int .i64 x) ∧ W = w') := fun B W hW => by
      rw [← hx]; exact right_any mA mn mc B m W hW (by omega)
    have HRR : Hid (∀ B W, Mat W B mA mn m → Calls Try.prog 13 #[.slice mA mn mc] W fun e w' => e = .returned (.int .i64 x) ∧ ∃ k, w' = W.drewN k) := fun B W hW => by
      rw [← hx]; exact rright_any mA mn mc B m W hW (by omega)
    have HS := Lib.hid hs
    clear hs hx
    go_enter Try.func3, Try.ntmps3
    go_wp2_with fail
    with_reducible refine (alive_any _).mono ?_
    rintro e w1 ⟨rfl, hb1⟩
    have HM1 := Lib.hid (HM.out.now hb1)
    go_wp2_with fail
    with_reducible refine (small_b true _ _ _ _ _ _ HM1.out hml HS.out).mono ?_
    rintro e w' ⟨rfl, rfl⟩
    go_wp2_with fail
    with_reducible refine (HR.out _ _ HM1.out).mono ?_
    rintro e w' ⟨rfl, rfl⟩
    go_wp2_with fail
    with_reducible refine (HRR.out _ _ HM1.out).mono ?_
    rintro e w2 ⟨rfl, k, rfl⟩
    go_wp2_with fail
    go_ret
    exact ⟨by simp, below_drewN hb1 _⟩
  | false =>
    have HS := Lib.hid hs
    clear hs
    go_enter Try.func3, Try.ntmps3
    go_wp2_with fail
    with_reducible refine (alive_any _).mono ?_
    rintro e w1 ⟨rfl, hb1⟩
    have HM1 := Lib.hid (HM.out.now hb1)
    go_wp2_with fail
    with_reducible refine (small_b false _ _ _ _ _ _ HM1.out hml HS.out).mono ?_
    rintro e w' ⟨rfl, rfl⟩
    go_wp2_with fail
    go_ret
    exact ⟨rfl, hb1⟩


theorem own_assignRights : ownKnob Try.prog.godebug = none := by kernel_rfl
theorem laidOut_assignRights : laidOutB Try.prog = true := by kernel_rfl
set_option maxRecDepth 100000 in
theorem assignRights_lifted (os : Os) (started : os.Started) (H : Type) (enc : TypeId × Value → H) :
    ReturnsInHanded {} Try.checked os 3 .any (Rows.assignRightsSpec.pre6 enc Try.prog Try.f3 Rows.assignRightsRow.domain false) (Rows.assignRightsSpec.post enc Try.prog Try.f3 false true false false) := by
  refine returnsInHanded_of_change (C := Try.checked) own_assignRights started (by kernel_rfl) Try.func3
    (ChangeSpec.witness6 (enc := enc) (C := Try.checked) false ⟨#[], #[.slice none 0 0], []⟩ 8 (by kernel_rfl) (by kernel_rfl) (by kernel_rfl) (by kernel_rfl)) ?_
  intro W base args ds gs before hval0 hW hcnd _
  have hval : ∀ (j : Nat) t v, Try.f3.params[j]? = some t → args[j]? = some v → Value.okWide Try.prog W .any base t v := hval0
  have hW' := hW
  obtain ⟨p, q, hA0, hV, rfl, hfz, hnd⟩ := hW
  have hA : DataW.TrodAll enc Try.prog W 0 (fun _ => true) true Try.f3.params.toList args.toList ds p := hA0
  rw [Try.params3] at hA hval
  obtain ⟨v0, vs0, d0, ds0, p0, q0, hargs, rfl, rfl, h0, r0⟩ := trodAll_cons hA
  obtain ⟨rfl, rfl, rfl⟩ := trodAll_nil r0
  obtain rfl : args = #[v0] := by cases args; simp_all
  obtain ⟨rfl, rfl⟩ := trodVars_none hV
  obtain ⟨mA, mn, mc, m, rfl, m1, m2, mr, mw⟩ := open_mat Try.underlying22 Try.underlying27 Try.underlying3 (by kernel_rfl) (by kernel_rfl) (hval 0 22 v0 rfl rfl) h0
  refine (assignRights_any W mA mn mc m m1 m2 mr mw).mono fun e W' ⟨he, hb⟩ => ?_
  subst he
  exact ⟨_, rfl, law_post laidOut_assignRights (by kernel_rfl) rfl rfl Try.underlying4 hW' rfl hb⟩

theorem assignRights_holds : Rows.AssignRightsSaid :=
  OpenClaim.holds_of_wide 3 Try.f3 rfl rfl rfl rfl rfl rfl rfl ⟨rfl, rfl, rfl, rfl, rfl⟩ rfl rfl rfl rfl rfl (by kernel_rfl) Try.func3 (by kernel_rfl)
    (of_decide_eq_true (by kernel_rfl)) (by unfold Func.isWrapper; rw [if_neg (by decide +kernel)]; exact ⟨rfl, rfl⟩)
    (fun os started H enc _ => assignRights_lifted os started H enc)
#print axioms assignRights_holds
end Go.Proofs.Ytgmefnddbiofkaa
