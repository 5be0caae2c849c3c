/-
  GroomerChecks answers true for every input. Its conditions: none.
-/
import Derived.Test.YtegijfmdjaehjaaRows
import Derived.Test.YtegijfmdjaehjaaGruR
namespace Go.Proofs.Ytegijfmdjaehjaa
open Go.ChangeShapes Go.WideShapes Go.ChangeAt Go.RowKit

set_option maxRecDepth 100000 in
set_option maxHeartbeats 4000000 in
theorem groomerChecks_any (w : World) (v : Value) (l : List Gr) (hv : GrV w w.heap.size v l) :
    Calls Try.prog 3 #[v] w fun e w' => e = .returned (.bool true) ∧ Below w.heap.size w w' := by
  obtain ⟨A, n, c, rfl, HN, hc1, hc2, hr⟩ := hv.nam
  have HV := Lib.hid hv
  have hm := Int.ofNat_le.2 (show n ≤ maxLen by omega)
  clear hv hr
  have HP : Hid (∀ W, GrV W W.heap.size (.slice A n c) l → Calls Try.prog 12 #[.slice A n c] W fun e w' => e = .returned (.int .i64 ((rightG l : Nat) : Int)) ∧ Below W.heap.size W w') := fun W h => gright_any _ l W h
  have HRf : Hid (∀ W, GrV W W.heap.size (.slice A n c) l → Calls Try.prog 13 #[.slice A n c] W fun e w' => e = .returned (.int .i64 ((rightG l : Nat) : Int)) ∧ Below W.heap.size W w') := fun W h => rgright_any _ l W h
  generalize ((rightG l : Nat) : Int) = q at *
  go_enter Try.func3, Try.ntmps3
  go_wp2_with fail
  with_reducible refine (alive_any _).mono ?_
  rintro e w1 ⟨rfl, hb1⟩
  have HB1 := Lib.hid hb1
  have HV1 := Lib.hid (HV.out.now hb1)
  clear hb1
  by_cases hs : n ≤ 30
  · have d1 : decide ((n : Int) > 30) = false := decide_eq_false (by omega)
    go_wp2_with fail
    with_reducible refine (HP.out _ HV1.out).mono ?_
    rintro e w2 ⟨rfl, hb2⟩
    have HB2 := Lib.hid (HB1.out.trans (hb2.mono HB1.out.size))
    have HV2 := Lib.hid (HV1.out.now hb2)
    clear hb2
    go_wp2_with fail
    with_reducible refine (HRf.out _ HV2.out).mono ?_
    rintro e w3 ⟨rfl, hb3⟩
    have HB3 := Lib.hid (HB2.out.trans (hb3.mono HB2.out.size))
    clear hb3
    go_wp2_with fail
    go_ret
    exact ⟨rfl, HB3.out⟩
  · have d1 : decide ((n : Int) > 30) = true := decide_eq_true (by omega)
    go_wp2_with fail
    go_ret
    exact ⟨rfl, HB1.out⟩


theorem own_groomerChecks : ownKnob Try.prog.godebug = none := by kernel_rfl
theorem laidOut_groomerChecks : laidOutB Try.prog = true := by kernel_rfl
set_option maxRecDepth 100000 in
theorem groomerChecks_lifted (os : Os) (started : os.Started) (H : Type) (enc : TypeId × Value → H) :
    ReturnsInHanded {} Try.checked os 3 .any (Rows.groomerChecksSpec.pre6 enc Try.prog Try.f3 Rows.groomerChecksRow.domain false) (Rows.groomerChecksSpec.post enc Try.prog Try.f3 false true false false) := by
  refine returnsInHanded_of_change (C := Try.checked) own_groomerChecks started (by kernel_rfl) Try.func3
    (ChangeSpec.witness6 (enc := enc) (C := Try.checked) false ⟨#[], #[.slice none 0 0], []⟩ 8 (by kernel_rfl) (by kernel_rfl) (by kernel_rfl) (by kernel_rfl)) ?_
  intro W base args ds gs before hval0 hW hcnd _
  have hval : ∀ (j : Nat) t v, Try.f3.params[j]? = some t → args[j]? = some v → Value.okWide Try.prog W .any base t v := hval0
  have hW' := hW
  obtain ⟨p, q, hA0, hV, rfl, hfz, hnd⟩ := hW
  have hA : DataW.TrodAll enc Try.prog W 0 (fun _ => true) true Try.f3.params.toList args.toList ds p := hA0
  rw [Try.params3] at hA hval
  obtain ⟨v0, vs0, d0, ds0, p0, q0, hargs, rfl, rfl, h0, r0⟩ := trodAll_cons hA
  obtain ⟨rfl, rfl, rfl⟩ := trodAll_nil r0
  obtain rfl : args = #[v0] := by cases args; simp_all
  obtain ⟨rfl, rfl⟩ := trodVars_none hV
  obtain ⟨l, hl⟩ := open_grs (hval 0 22 v0 rfl rfl) h0
  refine (groomerChecks_any W v0 l hl).mono fun e W' ⟨he, hb⟩ => ?_
  subst he
  exact ⟨_, rfl, law_post laidOut_groomerChecks (by kernel_rfl) rfl rfl Try.underlying4 hW' rfl hb⟩

theorem groomerChecks_holds : Rows.GroomerChecksSaid :=
  OpenClaim.holds_of_wide 3 Try.f3 rfl rfl rfl rfl rfl rfl rfl ⟨rfl, rfl, rfl, rfl, rfl⟩ rfl rfl rfl rfl rfl (by kernel_rfl) Try.func3 (by kernel_rfl)
    (of_decide_eq_true (by kernel_rfl)) (by unfold Func.isWrapper; rw [if_neg (by decide +kernel)]; exact ⟨rfl, rfl⟩)
    (fun os started H enc _ => groomerChecks_lifted os started H enc)
#print axioms groomerChecks_holds

end Go.Proofs.Ytegijfmdjaehjaa
