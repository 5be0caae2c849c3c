/-
  JournalWrites answers true for every input. Its conditions: none.
-/
import Derived.Test.YtdmkkpnjakdnnaaJouR
import Derived.Test.YtdmkkpnjakdnnaaJouL
import Derived.Test.YtdmkkpnjakdnnaaJouE
namespace Go.Proofs.Ytdmkkpnjakdnnaa
open Go.ChangeShapes Go.WideShapes Go.ChangeAt Go.RowKit

set_option maxRecDepth 100000 in
set_option maxHeartbeats 4000000 in
theorem journalWrites_any (w : World) (v : Value) (l : List Rd) (hv : StrV Rd.cells 7 w w.heap.size v l) :
    Calls Try.prog 3 #[v] w fun e w' => e = .returned (.bool true) ∧ Below w.heap.size w w' := by
  obtain ⟨A, c, rfl, hc, hc2, hr⟩ := hv
  obtain ⟨n, hn⟩ : ∃ n, l.length = n := ⟨_, rfl⟩
  have HN := Lib.hid hn
  have HV := Lib.hid (strV_of hr rfl hc hc2)
  rw [hn] at HV hc ⊢
  have hm := Int.ofNat_le.2 (show n ≤ maxLen by omega)
  have HG : Hid (∃ x y, writeG l = (x, y)) := ⟨_, _, rfl⟩
  obtain ⟨x0, y, hg⟩ := HG.out
  have HG := Lib.hid hg
  clear hn hg hr
  go_enter Try.func3, Try.ntmps3
  go_wp2_with fail
  with_reducible refine (alive_any _).mono ?_
  rintro e w1 ⟨rfl, hb1⟩
  have HB1 := Lib.hid hb1
  have HV1 := Lib.hid (HV.out.now hb1)
  clear hb1
  by_cases hs : n ≤ 60
  · have d1 : decide ((n : Int) > 60) = false := decide_eq_false (by omega)
    have hl3 : l.length ≤ 3000000000000 := by have := HN.out; omega
    have W2 := (Write_any _ l _ HV1.out hl3)
    rw [HG.out] at W2
    go_wp2_with fail
    with_reducible refine W2.mono ?_
    rintro e w2 ⟨v2, rfl, ho2, hb2⟩
    have HB2 := Lib.hid (HB1.out.trans (hb2.mono HB1.out.size))
    have HV2 := Lib.hid (HV1.out.now hb2)
    obtain ⟨A2, n2, c2, rfl, HN2, h21, h22, hr2⟩ := ho2.nam
    have HR2 := Lib.hid hr2
    clear hb2 hr2 ho2 W2
    have W3 := (rWrite_any _ l _ HV2.out hl3)
    rw [HG.out] at W3
    go_wp2_with fail
    with_reducible refine W3.mono ?_
    rintro e w3 ⟨v3, rfl, ho3, hb3⟩
    have HB3 := Lib.hid (HB2.out.trans (hb3.mono HB2.out.size))
    have HR23 := Lib.hid (HR2.out.now hb3)
    obtain ⟨A3, n3, c3, rfl, HN3, h31, h32, hr3⟩ := ho3.nam
    have HR3 := Lib.hid hr3
    clear hb3 hr3 ho3 W3
    obtain ⟨st, hst⟩ : ∃ x, ByteArray.mk x0.toArray = x := ⟨_, rfl⟩
    have q1 := run_str (P := Try.prog) w3 Try.underlying24 Try.underlying5 Try.underlying9 HR23.out c2
    have q2 := run_str (P := Try.prog) w3 Try.underlying24 Try.underlying5 Try.underlying9 HR3.out c3
    rw [hst] at q1 q2
    go_wp2_with fail
    go_ret
    exact ⟨ret_b (by simp), HB3.out⟩
  · have d1 : decide ((n : Int) > 60) = true := decide_eq_true (by omega)
    go_wp2_with fail
    go_ret
    exact ⟨rfl, HB1.out⟩


theorem own_journalWrites : ownKnob Try.prog.godebug = none := by kernel_rfl
theorem laidOut_journalWrites : laidOutB Try.prog = true := by kernel_rfl
set_option maxRecDepth 100000 in
theorem journalWrites_lifted (os : Os) (started : os.Started) (H : Type) (enc : TypeId × Value → H) :
    ReturnsInHanded {} Try.checked os 3 .any (Rows.journalWritesSpec.pre6 enc Try.prog Try.f3 Rows.journalWritesRow.domain false) (Rows.journalWritesSpec.post enc Try.prog Try.f3 false true false false) := by
  refine returnsInHanded_of_change (C := Try.checked) own_journalWrites started (by kernel_rfl) Try.func3
    (ChangeSpec.witness6 (enc := enc) (C := Try.checked) false ⟨#[], #[.slice none 0 0], []⟩ 8 (by kernel_rfl) (by kernel_rfl) (by kernel_rfl) (by kernel_rfl)) ?_
  intro W base args ds gs before hval0 hW hcnd _
  have hval : ∀ (j : Nat) t v, Try.f3.params[j]? = some t → args[j]? = some v → Value.okWide Try.prog W .any base t v := hval0
  have hW' := hW
  obtain ⟨p, q, hA0, hV, rfl, hfz, hnd⟩ := hW
  have hA : DataW.TrodAll enc Try.prog W 0 (fun _ => true) true Try.f3.params.toList args.toList ds p := hA0
  rw [Try.params3] at hA hval
  obtain ⟨v0, vs0, d0, ds0, p0, q0, hargs, rfl, rfl, h0, r0⟩ := trodAll_cons hA
  obtain ⟨rfl, rfl, rfl⟩ := trodAll_nil r0
  obtain rfl : args = #[v0] := by cases args; simp_all
  obtain ⟨rfl, rfl⟩ := trodVars_none hV
  obtain ⟨l, hl⟩ := open_rides (hval 0 22 v0 rfl rfl) h0
  refine (journalWrites_any W v0 l hl).mono fun e W' ⟨he, hb⟩ => ?_
  subst he
  exact ⟨_, rfl, law_post laidOut_journalWrites (by kernel_rfl) rfl rfl Try.underlying4 hW' rfl hb⟩

theorem journalWrites_holds : Rows.JournalWritesSaid :=
  OpenClaim.holds_of_wide 3 Try.f3 rfl rfl rfl rfl rfl rfl rfl ⟨rfl, rfl, rfl, rfl, rfl⟩ rfl rfl rfl rfl rfl (by kernel_rfl) Try.func3 (by kernel_rfl)
    (of_decide_eq_true (by kernel_rfl)) (by unfold Func.isWrapper; rw [if_neg (by decide +kernel)]; exact ⟨rfl, rfl⟩)
    (fun os started H enc _ => journalWrites_lifted os started H enc)
#print axioms journalWrites_holds

end Go.Proofs.Ytdmkkpnjakdnnaa
