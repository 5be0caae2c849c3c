/-
  SealChecks answers true for every input. Its conditions: none.
-/
import Derived.Test.YtkhdlcadahdbkaaSealLaw
import Derived.Test.YtkhdlcadahdbkaaRow
namespace Go.Proofs.Ytkhdlcadahdbkaa
open Go.ChangeShapes Go.WideShapes Go.ChangeAt Go.RowKit

set_option maxHeartbeats 400000 in
theorem sealChecks_any (w : World) (k : Int) (hk : 0 ≤ k ∧ k < 18446744073709551616) (bA : Option Addr) (bn bc : Nat) (b : List UInt8) (b1 : bn ≤ bc) (b2 : bc ≤ maxLen) (br : Bytes w w.heap.size bA bn b) (t : Int) (ht : 0 ≤ t ∧ t < 18446744073709551616) :
    Calls Try.prog 6 #[.int .u64 k, .slice bA bn bc, .int .u64 t] w fun e w' => e = .returned (.bool true) ∧ Below w.heap.size w w' := by
  unfold maxLen at b2
  obtain ⟨hk0, hk1⟩ := hk
  have HB := Lib.hid br
  clear br
  by_cases hn : bn ≤ 2000
  · go_enter Try.func6, Try.ntmps6
    go_wp2_with fail
    with_reducible refine (alive_any _).mono ?_
    rintro e w1 ⟨rfl, hb1⟩
    have HB1 := Lib.hid (HB.out.below hb1)
    go_wp2_with fail
    with_reducible refine (tag_any _ hk0 hk1 _ _ _ _ _ _ HB1.out b1 (by omega)).mono ?_
    rintro e w' ⟨rfl, rfl⟩
    go_wp2_with fail
    with_reducible refine (check_any _ _ hk0 hk1 _ _ _ _ _ _ HB1.out b1 (by omega)).mono ?_
    rintro e w' ⟨rfl, rfl⟩
    go_wp2_with fail
    with_reducible refine (check_any _ _ hk0 hk1 _ _ _ _ _ _ HB1.out b1 (by omega)).mono ?_
    rintro e w' ⟨rfl, rfl⟩
    go_wp2_with fail
    with_reducible refine (rtag_any _ hk0 hk1 _ _ _ _ _ _ HB1.out (by omega)).mono ?_
    rintro e w' ⟨rfl, rfl⟩
    go_wp2_with fail
    go_ret
    exact ⟨ret_bool (beq_sym _ _), hb1⟩
  · go_enter Try.func6, Try.ntmps6
    go_wp2_with fail
    with_reducible refine (alive_any _).mono ?_
    rintro e w1 ⟨rfl, hb1⟩
    go_wp2_with fail
    go_ret
    exact ⟨rfl, hb1⟩


theorem own_sealChecks : ownKnob Try.prog.godebug = none := by kernel_rfl
theorem laidOut_sealChecks : laidOutB Try.prog = true := by kernel_rfl
set_option maxRecDepth 100000 in
theorem sealChecks_lifted (os : Os) (started : os.Started) (H : Type) (enc : TypeId × Value → H) :
    ReturnsInHanded {} Try.checked os 6 .any (Rows.sealChecksSpec.pre6 enc Try.prog Try.f6 Rows.sealChecksRow.domain false) (Rows.sealChecksSpec.post enc Try.prog Try.f6 false true false false) := by
  refine returnsInHanded_of_change (C := Try.checked) own_sealChecks started (by kernel_rfl) Try.func6
    (ChangeSpec.witness6 (enc := enc) (C := Try.checked) false ⟨#[], #[.int .u64 0, .slice none 0 0, .int .u64 0], []⟩ 8 (by kernel_rfl) (by kernel_rfl) (by kernel_rfl) (by kernel_rfl)) ?_
  intro W base args ds gs before hval0 hW hcnd _
  have hval : ∀ (j : Nat) t v, Try.f6.params[j]? = some t → args[j]? = some v → Value.okWide Try.prog W .any base t v := hval0
  have hW' := hW
  obtain ⟨p, q, hA0, hV, rfl, hfz, hnd⟩ := hW
  have hA : DataW.TrodAll enc Try.prog W 0 (fun _ => true) true Try.f6.params.toList args.toList ds p := hA0
  rw [Try.params6] at hA hval
  obtain ⟨v0, vs0, d0, ds0, p0, q0, hargs, rfl, rfl, h0, r0⟩ := trodAll_cons hA
  obtain ⟨v1, vs1, d1, ds1, p1, q1, rfl, rfl, rfl, h1, r1⟩ := trodAll_cons r0
  obtain ⟨v2, vs2, d2, ds2, p2, q2, rfl, rfl, rfl, h2, r2⟩ := trodAll_cons r1
  obtain ⟨rfl, rfl, rfl⟩ := trodAll_nil r2
  obtain rfl : args = #[v0, v1, v2] := by cases args; simp_all
  obtain ⟨rfl, rfl⟩ := trodVars_none hV
  obtain ⟨k, rfl, k0, k1⟩ := open_u64 Try.underlying22 (hval 0 22 v0 rfl rfl) h0
  obtain ⟨bA, bn, bc, b, rfl, b1, b2, br⟩ := open_bytes Try.underlying28 Try.underlying5 (by kernel_rfl) (hval 1 28 v1 rfl rfl) h1
  obtain ⟨t, rfl, t0, t1⟩ := open_u64 Try.underlying22 (hval 2 22 v2 rfl rfl) h2
  refine (sealChecks_any W k ⟨k0, k1⟩ bA bn bc b b1 b2 br t ⟨t0, t1⟩).mono fun e W' ⟨he, hb⟩ => ?_
  subst he
  exact ⟨_, rfl, law_post laidOut_sealChecks (by kernel_rfl) rfl rfl Try.underlying4 hW' rfl hb⟩

theorem sealChecks_holds : Rows.SealChecksSaid :=
  OpenClaim.holds_of_wide 6 Try.f6 rfl rfl rfl rfl rfl rfl rfl ⟨rfl, rfl, rfl, rfl, rfl⟩ rfl rfl rfl rfl rfl (by kernel_rfl) Try.func6 (by kernel_rfl)
    (of_decide_eq_true (by kernel_rfl)) (by unfold Func.isWrapper; rw [if_neg (by decide +kernel)]; exact ⟨rfl, rfl⟩)
    (fun os started H enc _ => sealChecks_lifted os started H enc)
#print axioms sealChecks_holds
end Go.Proofs.Ytkhdlcadahdbkaa
