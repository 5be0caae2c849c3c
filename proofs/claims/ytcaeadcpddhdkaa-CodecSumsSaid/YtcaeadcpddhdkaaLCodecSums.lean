/-
  CodecSums answers true for every input. Its conditions: none.
-/
import Derived.Test.YtcaeadcpddhdkaaCodecA
import Derived.Test.YtcaeadcpddhdkaaRow
namespace Go.Proofs.Ytcaeadcpddhdkaa
open Go.ChangeShapes Go.WideShapes Go.ChangeAt Go.RowKit

set_option maxHeartbeats 400000 in
theorem codecSums_any (w : World) (bA : Option Addr) (bn bc : Nat) (b : List UInt8) (b1 : bn ≤ bc) (b2 : bc ≤ maxLen) (br : Bytes w w.heap.size bA bn b) :
    Calls Try.prog 4 #[.slice bA bn bc] w fun e w' => e = .returned (.bool true) ∧ Below w.heap.size w w' := by
  have HR := Lib.hid br
  have HL := Lib.hid br.blen
  clear br
  by_cases h4 : bn ≤ 4000
  · obtain ⟨s, hs⟩ : ∃ s, sumN b = s := ⟨_, rfl⟩
    have HS := Lib.hid hs
    clear hs
    go_enter Try.func4, Try.ntmps4
    go_wp2_with fail
    with_reducible refine (alive_any _).mono ?_
    rintro e w1 ⟨rfl, hb1⟩
    have HR1 := Lib.hid (HR.out.now hb1)
    go_wp2_with fail
    with_reducible refine (sum_any _ _ _ _ s _ HR1.out (by omega) HS.out).mono ?_
    rintro e w2 ⟨rfl, hb2⟩
    have HR2 := Lib.hid (HR1.out.now hb2)
    have HB2 := Lib.hid (hb1.trans (hb2.mono hb1.size))
    clear hb2
    go_wp2_with fail
    with_reducible refine (rsum_any _ _ _ _ _ s _ HR2.out (by omega) HS.out).mono ?_
    rintro e w' ⟨rfl, rfl⟩
    go_wp2_with fail
    with_reducible refine (frame_any _ _ _ _ _ HR2.out (by omega)).mono ?_
    rintro e w3 ⟨v3, rfl, hown3, hb3⟩
    have HR3 := Lib.hid (HR2.out.now hb3)
    obtain ⟨A3, n3, c3, rfl, HN3, hc31, hc32, hr3⟩ := hown3.nam
    have HV3 := Lib.hid hr3
    have HB3 := Lib.hid (HB2.out.trans (hb3.mono HB2.out.size))
    clear hown3 hr3 hb3 hc31
    go_wp2_with fail
    with_reducible refine (rframe_any _ _ _ _ _ HR3.out (by omega)).mono ?_
    rintro e w4 ⟨v4, rfl, hown4, hb4⟩
    obtain ⟨A4, n4, c4, rfl, HN4, hc41, hc42, hr4⟩ := hown4.nam
    have HV4 := Lib.hid hr4
    have HV34 := Lib.hid (HV3.out.now hb4)
    have HB4 := Lib.hid (HB3.out.trans (hb4.mono HB3.out.size))
    clear hown4 hr4 hb4 hc41
    go_wp2_with fail
    with_reducible refine (sameb_any true _ _ _ _ _ _ _ _ _ _ _ HV34.out HV4.out (by simp)).mono ?_
    rintro e w5 ⟨rfl, rfl⟩
    go_wp2_with fail
    go_ret
    exact ⟨rfl, HB4.out⟩
  · go_enter Try.func4, Try.ntmps4
    go_wp2_with fail
    with_reducible refine (alive_any _).mono ?_
    rintro e w1 ⟨rfl, hb1⟩
    go_wp2_with fail
    go_ret
    exact ⟨rfl, hb1⟩


theorem own_codecSums : ownKnob Try.prog.godebug = none := by kernel_rfl
theorem laidOut_codecSums : laidOutB Try.prog = true := by kernel_rfl
set_option maxRecDepth 100000 in
theorem codecSums_lifted (os : Os) (started : os.Started) (H : Type) (enc : TypeId × Value → H) :
    ReturnsInHanded {} Try.checked os 4 .any (Rows.codecSumsSpec.pre6 enc Try.prog Try.f4 Rows.codecSumsRow.domain false) (Rows.codecSumsSpec.post enc Try.prog Try.f4 false true false false) := by
  refine returnsInHanded_of_change (C := Try.checked) own_codecSums started (by kernel_rfl) Try.func4
    (ChangeSpec.witness6 (enc := enc) (C := Try.checked) false ⟨#[], #[.slice none 0 0], []⟩ 8 (by kernel_rfl) (by kernel_rfl) (by kernel_rfl) (by kernel_rfl)) ?_
  intro W base args ds gs before hval0 hW hcnd _
  have hval : ∀ (j : Nat) t v, Try.f4.params[j]? = some t → args[j]? = some v → Value.okWide Try.prog W .any base t v := hval0
  have hW' := hW
  obtain ⟨p, q, hA0, hV, rfl, hfz, hnd⟩ := hW
  have hA : DataW.TrodAll enc Try.prog W 0 (fun _ => true) true Try.f4.params.toList args.toList ds p := hA0
  rw [Try.params4] at hA hval
  obtain ⟨v0, vs0, d0, ds0, p0, q0, hargs, rfl, rfl, h0, r0⟩ := trodAll_cons hA
  obtain ⟨rfl, rfl, rfl⟩ := trodAll_nil r0
  obtain rfl : args = #[v0] := by cases args; simp_all
  obtain ⟨rfl, rfl⟩ := trodVars_none hV
  obtain ⟨bA, bn, bc, b, rfl, b1, b2, br⟩ := open_bytes Try.underlying22 Try.underlying5 (by kernel_rfl) (hval 0 22 v0 rfl rfl) h0
  refine (codecSums_any W bA bn bc b b1 b2 br).mono fun e W' ⟨he, hb⟩ => ?_
  subst he
  exact ⟨_, rfl, law_post laidOut_codecSums (by kernel_rfl) rfl rfl Try.underlying4 hW' rfl hb⟩

theorem codecSums_holds : Rows.CodecSumsSaid :=
  OpenClaim.holds_of_wide 4 Try.f4 rfl rfl rfl rfl rfl rfl rfl ⟨rfl, rfl, rfl, rfl, rfl⟩ rfl rfl rfl rfl rfl (by kernel_rfl) Try.func4 (by kernel_rfl)
    (of_decide_eq_true (by kernel_rfl)) (by unfold Func.isWrapper; rw [if_neg (by decide +kernel)]; exact ⟨rfl, rfl⟩)
    (fun os started H enc _ => codecSums_lifted os started H enc)
#print axioms codecSums_holds
end Go.Proofs.Ytcaeadcpddhdkaa
