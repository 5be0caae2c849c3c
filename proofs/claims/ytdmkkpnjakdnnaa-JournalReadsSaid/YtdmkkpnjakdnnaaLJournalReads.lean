/-
  JournalReads answers true for every input. Its conditions: none.
-/
import Derived.Test.YtdmkkpnjakdnnaaJouR
import Derived.Test.YtdmkkpnjakdnnaaJouL
import Derived.Test.YtdmkkpnjakdnnaaJouK
namespace Go.Proofs.Ytdmkkpnjakdnnaa
open Go.ChangeShapes Go.WideShapes Go.ChangeAt Go.RowKit

set_option maxRecDepth 100000 in
set_option maxHeartbeats 4000000 in
theorem journalReads_any (w : World) (bA : Option Addr) (bn bc : Nat) (b : List UInt8) (b1 : bn ≤ bc) (b2 : bc ≤ maxLen) (br : Bytes w w.heap.size bA bn b) :
    Calls Try.prog 5 #[.slice bA bn bc] w fun e w' => e = .returned (.bool true) ∧ Below w.heap.size w w' := by
  have HR := Lib.hid br
  have hm := Int.ofNat_le.2 (show bn ≤ maxLen by omega)
  obtain ⟨l, s, lk, hT⟩ : ∃ l s lk, scanR 0 b = (l, s, lk) := ⟨_, _, _, rfl⟩
  have HT := Lib.hid hT
  obtain ⟨q, hq⟩ : ∃ q, decide (s = bn) = q := ⟨_, rfl⟩
  have HQ := Lib.hid hq
  clear hT hq br
  go_enter Try.func5, Try.ntmps5
  go_wp2_with fail
  with_reducible refine (alive_any _).mono ?_
  rintro e w1 ⟨rfl, hb1⟩
  have HB1 := Lib.hid hb1
  have HV1 := Lib.hid (HR.out.now HB1.out)
  clear hb1
  by_cases hs : bn ≤ 2000
  · have d1 : decide ((bn : Int) > 2000) = false := decide_eq_false (by omega)
    go_wp2_with fail
    with_reducible refine (Read_any bA bn bc b l s lk _ HV1.out (by omega) b1 b2 HT.out).mono ?_
    rintro e w2 ⟨v2, rfl, ho2, hb2⟩
    have HB2 := Lib.hid (HB1.out.trans (hb2.mono HB1.out.size))
    have HV2 := Lib.hid (HV1.out.now hb2)
    have HS2 := Lib.hid ho2.strV
    clear hb2 ho2
    go_wp2_with fail
    with_reducible refine (rRead_any bA bn bc b l s lk _ HV2.out (by omega) b1 b2 HT.out).mono ?_
    rintro e w3 ⟨v3, rfl, ho3, hb3⟩
    have HB3 := Lib.hid (HB2.out.trans (hb3.mono HB2.out.size))
    have HV3 := Lib.hid (HV2.out.now hb3)
    have HS23 := Lib.hid (HS2.out.now hb3)
    have HS3 := Lib.hid ho3.strV
    clear hb3 ho3
    go_wp2_with fail
    with_reducible refine (rsame_any _ _ l _ HS23.out HS3.out).mono ?_
    rintro e w4 ⟨rfl, hb4⟩
    have HB4 := Lib.hid (HB3.out.trans (hb4.mono HB3.out.size))
    have HV4 := Lib.hid (HV3.out.now hb4)
    clear hb4
    go_wp2_with fail
    with_reducible refine (Whole_any q bA bn bc b l s lk _ HV4.out (by omega) b1 b2 HT.out HQ.out).mono ?_
    rintro e w5 ⟨rfl, hb5⟩
    have HB5 := Lib.hid (HB4.out.trans (hb5.mono HB4.out.size))
    have HV5 := Lib.hid (HV4.out.now hb5)
    clear hb5
    go_wp2_with fail
    with_reducible refine (rWhole_any q bA bn bc b l s lk _ HV5.out (by omega) b1 b2 HT.out HQ.out).mono ?_
    rintro e w6 ⟨rfl, hb6⟩
    have HB6 := Lib.hid (HB5.out.trans (hb6.mono HB5.out.size))
    have HV6 := Lib.hid (HV5.out.now hb6)
    clear hb6
    go_wp2_with fail
    with_reducible refine (Last_any bA bn bc b l s lk _ HV6.out (by omega) b1 b2 HT.out).mono ?_
    rintro e w7 ⟨rfl, hb7⟩
    have HB7 := Lib.hid (HB6.out.trans (hb7.mono HB6.out.size))
    have HV7 := Lib.hid (HV6.out.now hb7)
    clear hb7
    go_wp2_with fail
    with_reducible refine (rLast_any bA bn bc b l s lk _ HV7.out (by omega) b1 b2 HT.out).mono ?_
    rintro e w8 ⟨rfl, hb8⟩
    have HB8 := Lib.hid (HB7.out.trans (hb8.mono HB7.out.size))
    clear hb8
    go_wp2_with fail
    go_ret
    exact ⟨ret_b (by simp), HB8.out⟩
  · have d1 : decide ((bn : Int) > 2000) = true := decide_eq_true (by omega)
    go_wp2_with fail
    go_ret
    exact ⟨rfl, HB1.out⟩


theorem own_journalReads : ownKnob Try.prog.godebug = none := by kernel_rfl
theorem laidOut_journalReads : laidOutB Try.prog = true := by kernel_rfl
set_option maxRecDepth 100000 in
theorem journalReads_lifted (os : Os) (started : os.Started) (H : Type) (enc : TypeId × Value → H) :
    ReturnsInHanded {} Try.checked os 5 .any (Rows.journalReadsSpec.pre6 enc Try.prog Try.f5 Rows.journalReadsRow.domain false) (Rows.journalReadsSpec.post enc Try.prog Try.f5 false true false false) := by
  refine returnsInHanded_of_change (C := Try.checked) own_journalReads started (by kernel_rfl) Try.func5
    (ChangeSpec.witness6 (enc := enc) (C := Try.checked) false ⟨#[], #[.slice none 0 0], []⟩ 8 (by kernel_rfl) (by kernel_rfl) (by kernel_rfl) (by kernel_rfl)) ?_
  intro W base args ds gs before hval0 hW hcnd _
  have hval : ∀ (j : Nat) t v, Try.f5.params[j]? = some t → args[j]? = some v → Value.okWide Try.prog W .any base t v := hval0
  have hW' := hW
  obtain ⟨p, q, hA0, hV, rfl, hfz, hnd⟩ := hW
  have hA : DataW.TrodAll enc Try.prog W 0 (fun _ => true) true Try.f5.params.toList args.toList ds p := hA0
  rw [Try.params5] at hA hval
  obtain ⟨v0, vs0, d0, ds0, p0, q0, hargs, rfl, rfl, h0, r0⟩ := trodAll_cons hA
  obtain ⟨rfl, rfl, rfl⟩ := trodAll_nil r0
  obtain rfl : args = #[v0] := by cases args; simp_all
  obtain ⟨rfl, rfl⟩ := trodVars_none hV
  obtain ⟨bA, bn, bc, b, rfl, b1, b2, br⟩ := open_bytes Try.underlying24 Try.underlying5 (by kernel_rfl) (hval 0 24 v0 rfl rfl) h0
  refine (journalReads_any W bA bn bc b b1 b2 br).mono fun e W' ⟨he, hb⟩ => ?_
  subst he
  exact ⟨_, rfl, law_post laidOut_journalReads (by kernel_rfl) rfl rfl Try.underlying4 hW' rfl hb⟩

theorem journalReads_holds : Rows.JournalReadsSaid :=
  OpenClaim.holds_of_wide 5 Try.f5 rfl rfl rfl rfl rfl rfl rfl ⟨rfl, rfl, rfl, rfl, rfl⟩ rfl rfl rfl rfl rfl (by kernel_rfl) Try.func5 (by kernel_rfl)
    (of_decide_eq_true (by kernel_rfl)) (by unfold Func.isWrapper; rw [if_neg (by decide +kernel)]; exact ⟨rfl, rfl⟩)
    (fun os started H enc _ => journalReads_lifted os started H enc)
#print axioms journalReads_holds

end Go.Proofs.Ytdmkkpnjakdnnaa
