/-
  AssignBests answers true for every input. Its conditions: none.
-/
import Derived.Test.YtgmefnddbiofkaaAssignG
import Derived.Test.YtgmefnddbiofkaaRowMat
namespace Go.Proofs.Ytgmefnddbiofkaa
open Go.ChangeShapes Go.WideShapes Go.ChangeAt Go.RowKit

set_option maxHeartbeats 400000 in
theorem assignBests_any (w : World) (mA : Option Addr) (mn mc : Nat) (m : List (List Int)) (m1 : mn ≤ mc) (m2 : mc ≤ maxLen) (mr : Mat w w.heap.size mA mn m) (mw : ∀ r ∈ m, ∀ y ∈ r, (Lit.int .i64 y).wf = true) :
    Calls Try.prog 5 #[.slice mA mn mc] w fun e w' => e = .returned (.bool true) ∧ Below w.heap.size w w' := by
  have hml : mn ≤ maxLen := Nat.le_trans m1 m2
  have HM := Lib.hid mr
  have HL := Lib.hid mr.len
  clear mr mw m2
  obtain ⟨s, hs⟩ : ∃ s, smallB m = s := ⟨_, rfl⟩
  cases s with
  | true =>
    have h20 := smallB_len hs
    rw [HL.out] at h20
    have HS := Lib.hid hs
    clear hs
    by_cases hx : errR m = 0
    · have HR := Lib.hid (errR_ok hx)
      clear hx
      go_enter Try.func5, Try.ntmps5
      go_wp2_with fail
      with_reducible refine (alive_any _).mono ?_
      rintro e w1 ⟨rfl, hb1⟩
      have HM1 := Lib.hid (HM.out.now hb1)
      go_wp2_with fail
      with_reducible refine (small_b true _ _ _ _ _ _ HM1.out hml HS.out).mono ?_
      rintro e w' ⟨rfl, rfl⟩
      go_wp2_with fail
      with_reducible refine (best_ok _ _ _ _ _ HM1.out HR.out).mono ?_
      rintro e w3 ⟨p, n, vA, vc, rfl, hbest, hv1, hv2, hvi, hb3⟩
      have HM3 := Lib.hid (HM1.out.now hb3)
      have hbb3 := hb1.trans (hb3.mono hb1.size)
      have HV := Lib.hid hvi
      have HB := Lib.hid hbest
      have hpl : p.length ≤ 8 := by
        have := ((mem_allA _ _ _ _).1 hbest.mem).1
        have := HR.out.few
        omega
      clear hb3 hvi hbest
      unfold maxLen at hv2
      go_wp2_with fail
      with_reducible refine (rbest_ok _ _ _ _ _ HM3.out HR.out).mono ?_
      rintro e w4 ⟨q, k, uA, uc, rfl, hbest2, hu1, hu2, hui, hb4⟩
      obtain ⟨rfl, rfl⟩ := HB.out.unique hbest2
      have hbb4 := hbb3.trans (hb4.mono hbb3.size)
      have HV4 := Lib.hid (HV.out.now hb4)
      have HU := Lib.hid hui
      have hbq : (n == n) = true := by simp
      unfold maxLen at hu2
      clear hb4 hui hbest2
      go_wp2_with fail
      with_reducible refine (same_b true _ _ _ _ _ _ _ _ _ _ _ HV4.out HU.out (by unfold maxLen; omega) (by simp)).mono ?_
      rintro e w5 ⟨rfl, j, rfl⟩
      go_wp2_with fail
      go_ret
      exact ⟨rfl, below_drewN hbb4 _⟩
    · obtain ⟨x, hx'⟩ : ∃ x, errR m = x := ⟨_, rfl⟩
      rw [hx'] at hx
      have HX := Lib.hid hx'
      have HX0 := Lib.hid hx
      have hbq : (x == x) = true := by simp
      clear hx hx'
      go_enter Try.func5, Try.ntmps5
      go_wp2_with fail
      with_reducible refine (alive_any _).mono ?_
      rintro e w1 ⟨rfl, hb1⟩
      have HM1 := Lib.hid (HM.out.now hb1)
      go_wp2_with fail
      with_reducible refine (small_b true _ _ _ _ _ _ HM1.out hml HS.out).mono ?_
      rintro e w' ⟨rfl, rfl⟩
      go_wp2_with fail
      with_reducible refine (best_err _ _ _ _ _ HM1.out (by omega) x HX.out HX0.out).mono ?_
      rintro e w3 ⟨rfl, hb3⟩
      have HM3 := Lib.hid (HM1.out.now hb3)
      have hbb3 := hb1.trans (hb3.mono hb1.size)
      clear hb3
      go_wp2_with fail
      with_reducible refine (rbest_err _ _ _ _ _ HM3.out (by omega) x HX.out HX0.out).mono ?_
      rintro e w4 ⟨rfl, j, rfl⟩
      go_wp2_with fail
      with_reducible refine (same_b true _ _ _ _ _ _ 0 0 [] [] _ Reads.empty Reads.empty (by unfold maxLen; omega) (by simp)).mono ?_
      rintro e w5 ⟨rfl, j2, rfl⟩
      go_wp2_with fail
      go_ret
      exact ⟨rfl, below_drewN hbb3 _⟩
  | false =>
    have HS := Lib.hid hs
    clear hs
    go_enter Try.func5, Try.ntmps5
    go_wp2_with fail
    with_reducible refine (alive_any _).mono ?_
    rintro e w1 ⟨rfl, hb1⟩
    have HM1 := Lib.hid (HM.out.now hb1)
    go_wp2_with fail
    with_reducible refine (small_b false _ _ _ _ _ _ HM1.out hml HS.out).mono ?_
    rintro e w' ⟨rfl, rfl⟩
    go_wp2_with fail
    go_ret
    exact ⟨rfl, hb1⟩


theorem own_assignBests : ownKnob Try.prog.godebug = none := by kernel_rfl
theorem laidOut_assignBests : laidOutB Try.prog = true := by kernel_rfl
set_option maxRecDepth 100000 in
theorem assignBests_lifted (os : Os) (started : os.Started) (H : Type) (enc : TypeId × Value → H) :
    ReturnsInHanded {} Try.checked os 5 .any (Rows.assignBestsSpec.pre6 enc Try.prog Try.f5 Rows.assignBestsRow.domain false) (Rows.assignBestsSpec.post enc Try.prog Try.f5 false true false false) := by
  refine returnsInHanded_of_change (C := Try.checked) own_assignBests started (by kernel_rfl) Try.func5
    (ChangeSpec.witness6 (enc := enc) (C := Try.checked) false ⟨#[], #[.slice none 0 0], []⟩ 8 (by kernel_rfl) (by kernel_rfl) (by kernel_rfl) (by kernel_rfl)) ?_
  intro W base args ds gs before hval0 hW hcnd _
  have hval : ∀ (j : Nat) t v, Try.f5.params[j]? = some t → args[j]? = some v → Value.okWide Try.prog W .any base t v := hval0
  have hW' := hW
  obtain ⟨p, q, hA0, hV, rfl, hfz, hnd⟩ := hW
  have hA : DataW.TrodAll enc Try.prog W 0 (fun _ => true) true Try.f5.params.toList args.toList ds p := hA0
  rw [Try.params5] at hA hval
  obtain ⟨v0, vs0, d0, ds0, p0, q0, hargs, rfl, rfl, h0, r0⟩ := trodAll_cons hA
  obtain ⟨rfl, rfl, rfl⟩ := trodAll_nil r0
  obtain rfl : args = #[v0] := by cases args; simp_all
  obtain ⟨rfl, rfl⟩ := trodVars_none hV
  obtain ⟨mA, mn, mc, m, rfl, m1, m2, mr, mw⟩ := open_mat Try.underlying22 Try.underlying27 Try.underlying3 (by kernel_rfl) (by kernel_rfl) (hval 0 22 v0 rfl rfl) h0
  refine (assignBests_any W mA mn mc m m1 m2 mr mw).mono fun e W' ⟨he, hb⟩ => ?_
  subst he
  exact ⟨_, rfl, law_post laidOut_assignBests (by kernel_rfl) rfl rfl Try.underlying4 hW' rfl hb⟩

theorem assignBests_holds : Rows.AssignBestsSaid :=
  OpenClaim.holds_of_wide 5 Try.f5 rfl rfl rfl rfl rfl rfl rfl ⟨rfl, rfl, rfl, rfl, rfl⟩ rfl rfl rfl rfl rfl (by kernel_rfl) Try.func5 (by kernel_rfl)
    (of_decide_eq_true (by kernel_rfl)) (by unfold Func.isWrapper; rw [if_neg (by decide +kernel)]; exact ⟨rfl, rfl⟩)
    (fun os started H enc _ => assignBests_lifted os started H enc)
#print axioms assignBests_holds
end Go.Proofs.Ytgmefnddbiofkaa
