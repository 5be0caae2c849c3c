/-
  CodecTexts answers true for every input. Its conditions: none.
-/
import Derived.Test.YtcaeadcpddhdkaaCodecA
import Derived.Test.YtcaeadcpddhdkaaRow
import Derived.ChangeMaps5
namespace Go.Proofs.Ytcaeadcpddhdkaa
open Go.ChangeShapes Go.WideShapes Go.ChangeAt Go.RowKit

set_option maxRecDepth 100000 in
set_option maxHeartbeats 1000000 in
theorem codecTexts_any (w : World) (bA : Option Addr) (bn bc : Nat) (b : List UInt8) (b1 : bn ≤ bc) (b2 : bc ≤ maxLen) (br : Bytes w w.heap.size bA bn b) (s : ByteArray) (sm : s.size ≤ maxLen) :
    Calls Try.prog 7 #[.slice bA bn bc, .string s] w fun e w' => e = .returned (.bool true) ∧ Below w.heap.size w w' := by
  have HR := Lib.hid br
  have HL := Lib.hid br.blen
  clear br sm
  by_cases h4 : bn ≤ 4000
  · by_cases h5 : s.size ≤ 4000
    · obtain ⟨t, k, e, ht⟩ : ∃ t k e, textG b = (t, k, e) := ⟨_, _, _, rfl⟩
      have HT := Lib.hid ht
      clear ht
      go_enter Try.func7, Try.ntmps7
      go_wp2_with fail
      with_reducible refine (alive_any _).mono ?_
      rintro e w1 ⟨rfl, hb1⟩
      have HR1 := Lib.hid (HR.out.now hb1)
      go_wp2_with fail
      with_reducible refine (gtext_any _ _ _ _ _ t k e _ HR1.out (by omega) b1 b2 HT.out).mono ?_
      rintro e w' ⟨rfl, rfl⟩
      go_wp2_with fail
      with_reducible refine (rgtext_any _ _ _ _ _ t k e _ HR1.out (by omega) b1 b2 HT.out).mono ?_
      rintro e w' ⟨rfl, rfl⟩
      go_wp2_with fail
      with_reducible refine (ptext_any _ _ _ _ _ s _ HR1.out (by omega) (by omega) (Nat.le_refl _)).mono ?_
      rintro e' w2 ⟨v2, rfl, hown2, hb2⟩
      have HR2 := Lib.hid (HR1.out.now hb2)
      obtain ⟨A2, n2, c2, rfl, HN2, hc21, hc22, hr2⟩ := hown2.nam
      have HV2 := Lib.hid hr2
      have HB2 := Lib.hid (hb1.trans (hb2.mono hb1.size))
      clear hown2 hr2 hb2 hc21
      go_wp2_with fail
      with_reducible refine (rptext_any _ _ _ _ _ s _ HR2.out (by omega) (by omega) (Nat.le_refl _)).mono ?_
      rintro e' w3 ⟨v3, rfl, hown3, hb3⟩
      obtain ⟨A3, n3, c3, rfl, HN3, hc31, hc32, hr3⟩ := hown3.nam
      have HV3 := Lib.hid hr3
      have HV23 := Lib.hid (HV2.out.now hb3)
      have HB3 := Lib.hid (HB2.out.trans (hb3.mono HB2.out.size))
      clear hown3 hr3 hb3 hc31
      go_wp2_with fail
      with_reducible refine (sameb_any true _ _ _ _ _ _ _ _ _ _ _ HV23.out HV3.out (by simp)).mono ?_
      rintro e' w4 ⟨rfl, rfl⟩
      go_wp2_with fail
      go_ret
      exact ⟨rfl, HB3.out⟩
    · go_enter Try.func7, Try.ntmps7
      go_wp2_with fail
      with_reducible refine (alive_any _).mono ?_
      rintro e w1 ⟨rfl, hb1⟩
      go_wp2_with fail
      go_ret
      exact ⟨rfl, hb1⟩
  · go_enter Try.func7, Try.ntmps7
    go_wp2_with fail
    with_reducible refine (alive_any _).mono ?_
    rintro e w1 ⟨rfl, hb1⟩
    go_wp2_with fail
    go_ret
    exact ⟨rfl, hb1⟩


theorem own_codecTexts : ownKnob Try.prog.godebug = none := by kernel_rfl
theorem laidOut_codecTexts : laidOutB Try.prog = true := by kernel_rfl
set_option maxRecDepth 100000 in
theorem codecTexts_lifted (os : Os) (started : os.Started) (H : Type) (enc : TypeId × Value → H) :
    ReturnsInHanded {} Try.checked os 7 .any (Rows.codecTextsSpec.pre6 enc Try.prog Try.f7 Rows.codecTextsRow.domain false) (Rows.codecTextsSpec.post enc Try.prog Try.f7 false true false false) := by
  refine returnsInHanded_of_change (C := Try.checked) own_codecTexts started (by kernel_rfl) Try.func7
    (ChangeSpec.witness6 (enc := enc) (C := Try.checked) false ⟨#[], #[.slice none 0 0, .string ⟨#[]⟩], []⟩ 8 (by kernel_rfl) (by kernel_rfl) (by kernel_rfl) (by kernel_rfl)) ?_
  intro W base args ds gs before hval0 hW hcnd _
  have hval : ∀ (j : Nat) t v, Try.f7.params[j]? = some t → args[j]? = some v → Value.okWide Try.prog W .any base t v := hval0
  have hW' := hW
  obtain ⟨p, q, hA0, hV, rfl, hfz, hnd⟩ := hW
  have hA : DataW.TrodAll enc Try.prog W 0 (fun _ => true) true Try.f7.params.toList args.toList ds p := hA0
  rw [Try.params7] at hA hval
  obtain ⟨v0, vs0, d0, ds0, p0, q0, hargs, rfl, rfl, h0, r0⟩ := trodAll_cons hA
  obtain ⟨v1, vs1, d1, ds1, p1, q1, rfl, rfl, rfl, h1, r1⟩ := trodAll_cons r0
  obtain ⟨rfl, rfl, rfl⟩ := trodAll_nil r1
  obtain rfl : args = #[v0, v1] := by cases args; simp_all
  obtain ⟨rfl, rfl⟩ := trodVars_none hV
  obtain ⟨bA, bn, bc, b, rfl, b1, b2, br⟩ := open_bytes Try.underlying22 Try.underlying5 (by kernel_rfl) (hval 0 22 v0 rfl rfl) h0
  obtain ⟨s, rfl, _, _, sm⟩ := Go.ChangeMaps.open_string Try.underlying9 (hval 1 9 v1 rfl rfl) h1
  refine (codecTexts_any W bA bn bc b b1 b2 br s sm).mono fun e W' ⟨he, hb⟩ => ?_
  subst he
  exact ⟨_, rfl, law_post laidOut_codecTexts (by kernel_rfl) rfl rfl Try.underlying4 hW' rfl hb⟩

theorem codecTexts_holds : Rows.CodecTextsSaid :=
  OpenClaim.holds_of_wide 7 Try.f7 rfl rfl rfl rfl rfl rfl rfl ⟨rfl, rfl, rfl, rfl, rfl⟩ rfl rfl rfl rfl rfl (by kernel_rfl) Try.func7 (by kernel_rfl)
    (of_decide_eq_true (by kernel_rfl)) (by unfold Func.isWrapper; rw [if_neg (by decide +kernel)]; exact ⟨rfl, rfl⟩)
    (fun os started H enc _ => codecTexts_lifted os started H enc)
#print axioms codecTexts_holds
end Go.Proofs.Ytcaeadcpddhdkaa
