/-
  CodecLists answers true for every input. Its conditions: none.
-/
import Derived.Test.YtcaeadcpddhdkaaCodecA
import Derived.Test.YtcaeadcpddhdkaaRow
namespace Go.Proofs.Ytcaeadcpddhdkaa
open Go.ChangeShapes Go.WideShapes Go.ChangeAt Go.RowKit

set_option maxHeartbeats 400000 in
theorem codecLists_any (w : World) (bA : Option Addr) (bn bc : Nat) (b : List UInt8) (b1 : bn ≤ bc) (b2 : bc ≤ maxLen) (br : Bytes w w.heap.size bA bn b) (lA : Option Addr) (ln lc : Nat) (l : List Int) (l1 : ln ≤ lc) (l2 : lc ≤ maxLen) (lr : Reads w w.heap.size 1 lA ln (l.map (Value.int .i64))) (lw : ∀ z ∈ l, (Lit.int .i64 z).wf = true) :
    Calls Try.prog 8 #[.slice bA bn bc, .slice lA ln lc] w fun e w' => e = .returned (.bool true) ∧ Below w.heap.size w w' := by
  have HR := Lib.hid br
  have HL := Lib.hid br.blen
  have HI := Lib.hid lr
  have HW := Lib.hid lw
  clear br lr lw
  by_cases h4 : bn ≤ 4000
  · by_cases h5 : ln ≤ 300
    · obtain ⟨t, k, e, ht⟩ : ∃ t k e, listG b = (t, k, e) := ⟨_, _, _, rfl⟩
      have HT := Lib.hid ht
      clear ht
      go_enter Try.func8, Try.ntmps8
      go_wp2_with fail
      with_reducible refine (alive_any _).mono ?_
      rintro e w1 ⟨rfl, hb1⟩
      have HR1 := Lib.hid (HR.out.now hb1)
      have HI1 := Lib.hid (HI.out.now hb1)
      go_wp2_with fail
      with_reducible refine (glist_any _ _ _ _ t k e _ HR1.out (by omega) b1 b2 HT.out).mono ?_
      rintro e' w2 ⟨v2, rfl, hown2, hb2⟩
      have HR2 := Lib.hid (HR1.out.now hb2)
      have HI2 := Lib.hid (HI1.out.now hb2)
      obtain ⟨A2, n2, c2, rfl, HN2, hc21, hc22, hr2⟩ := hown2.nam
      have HV2 := Lib.hid hr2
      have HB2 := Lib.hid (hb1.trans (hb2.mono hb1.size))
      clear hown2 hr2 hb2
      go_wp2_with fail
      with_reducible refine (rglist_any _ _ _ _ t k e _ HR2.out (by omega) b1 b2 HT.out).mono ?_
      rintro e' w3 ⟨v3, rfl, hown3, hb3⟩
      have HR3 := Lib.hid (HR2.out.now hb3)
      have HI3 := Lib.hid (HI2.out.now hb3)
      have HV3 := Lib.hid (HV2.out.now hb3)
      obtain ⟨A3, n3, c3, rfl, HN3, hc31, hc32, hr3⟩ := hown3.nam
      have HU3 := Lib.hid hr3
      have HB3 := Lib.hid (HB2.out.trans (hb3.mono HB2.out.size))
      clear hown3 hr3 hb3 hc31
      go_wp2_with fail
      with_reducible refine (plist_any _ _ _ _ _ _ _ _ _ HR3.out (by omega) HI3.out (by omega) HW.out).mono ?_
      rintro e' w4 ⟨v4, rfl, hown4, hb4⟩
      have HR4 := Lib.hid (HR3.out.now hb4)
      have HI4 := Lib.hid (HI3.out.now hb4)
      have HV4 := Lib.hid (HV3.out.now hb4)
      have HU4 := Lib.hid (HU3.out.now hb4)
      obtain ⟨A4, n4, c4, rfl, HN4, hc41, hc42, hr4⟩ := hown4.nam
      have HX4 := Lib.hid hr4
      have HB4 := Lib.hid (HB3.out.trans (hb4.mono HB3.out.size))
      clear hown4 hr4 hb4 hc41
      go_wp2_with fail
      with_reducible refine (rplist_any _ _ _ _ _ _ _ _ _ HR4.out (by omega) HI4.out (by omega) HW.out).mono ?_
      rintro e' w5 ⟨v5, rfl, hown5, hb5⟩
      have HV5 := Lib.hid (HV4.out.now hb5)
      have HU5 := Lib.hid (HU4.out.now hb5)
      have HX5 := Lib.hid (HX4.out.now hb5)
      obtain ⟨A5, n5, c5, rfl, HN5, hc51, hc52, hr5⟩ := hown5.nam
      have HY5 := Lib.hid hr5
      have HB5 := Lib.hid (HB4.out.trans (hb5.mono HB4.out.size))
      clear hown5 hr5 hb5 hc51
      go_wp2_with fail
      with_reducible refine (sameb_any true _ _ _ _ _ _ _ _ _ _ _ HX5.out HY5.out (by simp)).mono ?_
      rintro e' w6 ⟨rfl, rfl⟩
      go_wp2_with fail
      with_reducible refine (samel_any true _ _ _ _ _ _ _ _ _ _ _ HV5.out HU5.out (Nat.le_trans hc21 hc22) (by simp)).mono ?_
      rintro e' w7 ⟨rfl, m, rfl⟩
      go_wp2_with fail
      go_ret
      exact ⟨rfl, below_drewN HB5.out _⟩
    · go_enter Try.func8, Try.ntmps8
      go_wp2_with fail
      with_reducible refine (alive_any _).mono ?_
      rintro e w1 ⟨rfl, hb1⟩
      go_wp2_with fail
      go_ret
      exact ⟨rfl, hb1⟩
  · go_enter Try.func8, Try.ntmps8
    go_wp2_with fail
    with_reducible refine (alive_any _).mono ?_
    rintro e w1 ⟨rfl, hb1⟩
    go_wp2_with fail
    go_ret
    exact ⟨rfl, hb1⟩


theorem own_codecLists : ownKnob Try.prog.godebug = none := by kernel_rfl
theorem laidOut_codecLists : laidOutB Try.prog = true := by kernel_rfl
set_option maxRecDepth 100000 in
theorem codecLists_lifted (os : Os) (started : os.Started) (H : Type) (enc : TypeId × Value → H) :
    ReturnsInHanded {} Try.checked os 8 .any (Rows.codecListsSpec.pre6 enc Try.prog Try.f8 Rows.codecListsRow.domain false) (Rows.codecListsSpec.post enc Try.prog Try.f8 false true false false) := by
  refine returnsInHanded_of_change (C := Try.checked) own_codecLists started (by kernel_rfl) Try.func8
    (ChangeSpec.witness6 (enc := enc) (C := Try.checked) false ⟨#[], #[.slice none 0 0, .slice none 0 0], []⟩ 8 (by kernel_rfl) (by kernel_rfl) (by kernel_rfl) (by kernel_rfl)) ?_
  intro W base args ds gs before hval0 hW hcnd _
  have hval : ∀ (j : Nat) t v, Try.f8.params[j]? = some t → args[j]? = some v → Value.okWide Try.prog W .any base t v := hval0
  have hW' := hW
  obtain ⟨p, q, hA0, hV, rfl, hfz, hnd⟩ := hW
  have hA : DataW.TrodAll enc Try.prog W 0 (fun _ => true) true Try.f8.params.toList args.toList ds p := hA0
  rw [Try.params8] at hA hval
  obtain ⟨v0, vs0, d0, ds0, p0, q0, hargs, rfl, rfl, h0, r0⟩ := trodAll_cons hA
  obtain ⟨v1, vs1, d1, ds1, p1, q1, rfl, rfl, rfl, h1, r1⟩ := trodAll_cons r0
  obtain ⟨rfl, rfl, rfl⟩ := trodAll_nil r1
  obtain rfl : args = #[v0, v1] := by cases args; simp_all
  obtain ⟨rfl, rfl⟩ := trodVars_none hV
  obtain ⟨bA, bn, bc, b, rfl, b1, b2, br⟩ := open_bytes Try.underlying22 Try.underlying5 (by kernel_rfl) (hval 0 22 v0 rfl rfl) h0
  obtain ⟨lA, ln, lc, l, rfl, l1, l2, lr, lw⟩ := open_ints_any Try.underlying38 Try.underlying3 (by kernel_rfl) (hval 1 38 v1 rfl rfl) h1
  refine (codecLists_any W bA bn bc b b1 b2 br lA ln lc l l1 l2 lr lw).mono fun e W' ⟨he, hb⟩ => ?_
  subst he
  exact ⟨_, rfl, law_post laidOut_codecLists (by kernel_rfl) rfl rfl Try.underlying4 hW' rfl hb⟩

theorem codecLists_holds : Rows.CodecListsSaid :=
  OpenClaim.holds_of_wide 8 Try.f8 rfl rfl rfl rfl rfl rfl rfl ⟨rfl, rfl, rfl, rfl, rfl⟩ rfl rfl rfl rfl rfl (by kernel_rfl) Try.func8 (by kernel_rfl)
    (of_decide_eq_true (by kernel_rfl)) (by unfold Func.isWrapper; rw [if_neg (by decide +kernel)]; exact ⟨rfl, rfl⟩)
    (fun os started H enc _ => codecLists_lifted os started H enc)
#print axioms codecLists_holds
end Go.Proofs.Ytcaeadcpddhdkaa
