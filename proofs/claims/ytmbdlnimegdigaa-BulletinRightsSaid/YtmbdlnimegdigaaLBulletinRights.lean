/-
  BulletinRights answers true for every input. Its conditions: none.
-/
import Derived.Test.YtmbdlnimegdigaaRows
import Derived.Test.YtmbdlnimegdigaaRowS
import Derived.Test.YtmbdlnimegdigaaBulG
import Derived.Test.YtmbdlnimegdigaaBulK
namespace Go.Proofs.Ytmbdlnimegdigaa
open Go.ChangeShapes Go.WideShapes Go.ChangeAt Go.RowKit

set_option maxRecDepth 100000 in
set_option maxHeartbeats 4000000 in
theorem bulletinRights_any (w : World) (lA : Option Addr) (ln lc : Nat) (l : List Bu) (l1 : ln ≤ lc) (l2 : lc ≤ maxLen) (lr : Buls w w.heap.size lA ln l) (lw : ∀ b ∈ l, BuW b) :
    Calls Try.prog 3 #[.slice lA ln lc] w fun e w' => e = .returned (.bool true) ∧ Below w.heap.size w w' := by
  have HR0 := Lib.hid lr
  have HB0 : Hid (Below w.heap.size w w) := hide (Below.refl _ _)
  have HL := Lib.hid lr.len
  clear lr
  obtain ⟨r, hr⟩ : ∃ r, fewB l = r := ⟨_, rfl⟩
  have HF := Lib.hid hr
  clear hr
  obtain ⟨v, hv⟩ : ∃ v, rightN l = v := ⟨_, rfl⟩
  have HV1 : Hid (∀ W : World, Buls W W.heap.size lA ln l → Calls Try.prog 11 #[.slice lA ln lc] W fun e w' => e = .returned (.int .i64 v) ∧ Below W.heap.size W w') := fun W hW => hv ▸ right_any lA ln lc l W hW
  have HV2 : Hid (∀ W : World, Buls W W.heap.size lA ln l → Calls Try.prog 12 #[.slice lA ln lc] W fun e w' => e = .returned (.int .i64 v) ∧ Below W.heap.size W w') := fun W hW => hv ▸ rright_any lA ln lc l W hW
  clear hv lw
  go_enter Try.func3, Try.ntmps3
  go_wp2_with fail
  with_reducible refine (alive_any _).mono ?_
  rintro e w1 ⟨rfl, hb1⟩
  have HB1 := Lib.hid (HB0.out.trans (hb1.mono HB0.out.size))
  have HR1 := Lib.hid (HR0.out.now hb1)
  clear hb1
  go_wp2_with fail
  with_reducible refine (few_any _ _ _ _ r _ HR1.out HF.out).mono ?_
  rintro e w2 ⟨rfl, hb2⟩
  have HB2 := Lib.hid (HB1.out.trans (hb2.mono HB1.out.size))
  have HR2 := Lib.hid (HR1.out.now hb2)
  clear hb2
  cases r with
  | false =>
    go_wp2_with fail
    go_ret
    exact ⟨rfl, HB2.out⟩
  | true =>
    go_wp2_with fail
    with_reducible refine (HV1.out _ HR2.out).mono ?_
    rintro e w3 ⟨rfl, hb3⟩
    have HB3 := Lib.hid (HB2.out.trans (hb3.mono HB2.out.size))
    have HR3 := Lib.hid (HR2.out.now hb3)
    clear hb3
    go_wp2_with fail
    with_reducible refine (HV2.out _ HR3.out).mono ?_
    rintro e w4 ⟨rfl, hb4⟩
    have HB4 := Lib.hid (HB3.out.trans (hb4.mono HB3.out.size))
    have HR4 := Lib.hid (HR3.out.now hb4)
    clear hb4
    go_wp2_with fail
    go_ret
    exact ⟨ret_b (by simp), HB4.out⟩


theorem own_bulletinRights : ownKnob Try.prog.godebug = none := by kernel_rfl
theorem laidOut_bulletinRights : laidOutB Try.prog = true := by kernel_rfl
set_option maxRecDepth 100000 in
theorem bulletinRights_lifted (os : Os) (started : os.Started) (H : Type) (enc : TypeId × Value → H) :
    ReturnsInHanded {} Try.checked os 3 .any (Rows.bulletinRightsSpec.pre6 enc Try.prog Try.f3 Rows.bulletinRightsRow.domain false) (Rows.bulletinRightsSpec.post enc Try.prog Try.f3 false true false false) := by
  refine returnsInHanded_of_change (C := Try.checked) own_bulletinRights started (by kernel_rfl) Try.func3
    (ChangeSpec.witness6 (enc := enc) (C := Try.checked) false ⟨#[], #[.slice none 0 0], []⟩ 8 (by kernel_rfl) (by kernel_rfl) (by kernel_rfl) (by kernel_rfl)) ?_
  intro W base args ds gs before hval0 hW hcnd _
  have hval : ∀ (j : Nat) t v, Try.f3.params[j]? = some t → args[j]? = some v → Value.okWide Try.prog W .any base t v := hval0
  have hW' := hW
  obtain ⟨p, q, hA0, hV, rfl, hfz, hnd⟩ := hW
  have hA : DataW.TrodAll enc Try.prog W 0 (fun _ => true) true Try.f3.params.toList args.toList ds p := hA0
  rw [Try.params3] at hA hval
  obtain ⟨v0, vs0, d0, ds0, p0, q0, hargs, rfl, rfl, h0, r0⟩ := trodAll_cons hA
  obtain ⟨rfl, rfl, rfl⟩ := trodAll_nil r0
  obtain rfl : args = #[v0] := by cases args; simp_all
  obtain ⟨rfl, rfl⟩ := trodVars_none hV
  obtain ⟨lA, ln, lc, l, rfl, l1, l2, lr, lw⟩ := open_buls (hval 0 22 v0 rfl rfl) h0
  refine (bulletinRights_any W lA ln lc l l1 l2 lr lw).mono fun e W' ⟨he, hb⟩ => ?_
  subst he
  exact ⟨_, rfl, law_post laidOut_bulletinRights (by kernel_rfl) rfl rfl Try.underlying4 hW' rfl hb⟩

theorem bulletinRights_holds : Rows.BulletinRightsSaid :=
  OpenClaim.holds_of_wide 3 Try.f3 rfl rfl rfl rfl rfl rfl rfl ⟨rfl, rfl, rfl, rfl, rfl⟩ rfl rfl rfl rfl rfl (by kernel_rfl) Try.func3 (by kernel_rfl)
    (of_decide_eq_true (by kernel_rfl)) (by unfold Func.isWrapper; rw [if_neg (by decide +kernel)]; exact ⟨rfl, rfl⟩)
    (fun os started H enc _ => bulletinRights_lifted os started H enc)
#print axioms bulletinRights_holds
end Go.Proofs.Ytmbdlnimegdigaa
