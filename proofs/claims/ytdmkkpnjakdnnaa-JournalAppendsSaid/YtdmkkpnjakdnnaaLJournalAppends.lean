/-
  JournalAppends answers true for every input. Its conditions: none.
-/
import Derived.Test.YtdmkkpnjakdnnaaJouR
import Derived.Test.YtdmkkpnjakdnnaaJouL
import Derived.Test.YtdmkkpnjakdnnaaJouK
namespace Go.Proofs.Ytdmkkpnjakdnnaa
open Go.ChangeShapes Go.WideShapes Go.ChangeAt Go.RowKit

set_option maxRecDepth 100000 in
set_option maxHeartbeats 4000000 in
theorem journalAppends_any (w : World) (bA : Option Addr) (bn bc : Nat) (b : List UInt8) (b1 : bn ≤ bc) (b2 : bc ≤ maxLen) (br : Bytes w w.heap.size bA bn b) (r : Rd) :
    Calls Try.prog 4 #[.slice bA bn bc, .agg #[.int .i64 r.gate, .int .i64 r.seq, .int .i64 r.ser, .int .i64 r.cnt, .int .i64 r.prod, .int .i64 r.lift, .int .i64 r.att]] w fun e w' => e = .returned (.bool true) ∧ Below w.heap.size w w' := by
  obtain ⟨ga, sq, se, cn, pr, li, at_⟩ := r
  dsimp only
  have HR := Lib.hid br
  have hm := Int.ofNat_le.2 (show bn ≤ maxLen by omega)
  have HG : Hid (∃ x y, appG b ⟨ga, sq, se, cn, pr, li, at_⟩ = (x, y)) := ⟨_, _, rfl⟩
  obtain ⟨x0, y, hg⟩ := HG.out
  have HG := Lib.hid hg
  clear hg br
  go_enter Try.func4, Try.ntmps4
  go_wp2_with fail
  have HBw0 := (Blk.new w 30 #[.int .i64 ga, .int .i64 sq, .int .i64 se, .int .i64 cn, .int .i64 pr, .int .i64 li, .int .i64 at_])
  have HLw0 := (below_new w (.cells #[.int .i64 ga, .int .i64 sq, .int .i64 se, .int .i64 cn, .int .i64 pr, .int .i64 li, .int .i64 at_] 30))
  have hsw0 : (w.alloc (.cells #[.int .i64 ga, .int .i64 sq, .int .i64 se, .int .i64 cn, .int .i64 pr, .int .i64 li, .int .i64 at_] 30)).heap.size = w.heap.size + 1 := by simp
  generalize w.alloc (.cells #[.int .i64 ga, .int .i64 sq, .int .i64 se, .int .i64 cn, .int .i64 pr, .int .i64 li, .int .i64 at_] 30) = w0 at HBw0 HLw0 hsw0 ⊢
  replace HBw0 := Lib.hid HBw0
  replace HLw0 := Lib.hid HLw0
  have hlw0 : w.heap.size < w0.heap.size := by omega
  replace hsw0 := Lib.hid hsw0
  refine (alive_any _).mono ?_
  rintro e w1 ⟨rfl, hb1⟩
  have HB1 := Lib.hid (HLw0.out.trans (hb1.mono HLw0.out.size))
  have HX1 := Lib.hid (HBw0.out.below hb1 hlw0)
  have hl1 := Nat.lt_of_lt_of_le hlw0 hb1.size
  have HV1 := Lib.hid (HR.out.now HB1.out)
  clear hb1
  by_cases hs : bn ≤ 2000
  · have d1 : decide ((bn : Int) > 2000) = false := decide_eq_false (by omega)
    have W2 := (Append_any bA bn bc b (⟨ga, sq, se, cn, pr, li, at_⟩ : Rd) _ HV1.out (by omega) b1 b2)
    rw [HG.out] at W2
    go_wp2_with (refine wpList_load_blk rfl 30 (.tmp 3) rfl w.heap.size rfl _ _ HX1.out _ Try.underlying30 rfl (by kernel_rfl) ?_)
    with_reducible refine W2.mono ?_
    rintro e w2 ⟨v2, rfl, ho2, hb2⟩
    have HB2 := Lib.hid (HB1.out.trans (hb2.mono HB1.out.size))
    have HX2 := Lib.hid (HX1.out.below hb2 hl1)
    have hl2 := Nat.lt_of_lt_of_le hl1 hb2.size
    have HV2 := Lib.hid (HV1.out.now hb2)
    obtain ⟨A2, n2, c2, rfl, HN2, h21, h22, hr2⟩ := ho2.nam
    have HR2 := Lib.hid hr2
    clear hb2 hr2 ho2 W2
    have W3 := (rAppend_any bA bn bc b (⟨ga, sq, se, cn, pr, li, at_⟩ : Rd) _ HV2.out (by omega) b1 b2)
    rw [HG.out] at W3
    go_wp2_with (refine wpList_load_blk rfl 30 (.tmp 3) rfl w.heap.size rfl _ _ HX2.out _ Try.underlying30 rfl (by kernel_rfl) ?_)
    with_reducible refine W3.mono ?_
    rintro e w3 ⟨v3, rfl, ho3, hb3⟩
    have HB3 := Lib.hid (HB2.out.trans (hb3.mono HB2.out.size))
    have HR23 := Lib.hid (HR2.out.now hb3)
    obtain ⟨A3, n3, c3, rfl, HN3, h31, h32, hr3⟩ := ho3.nam
    have HR3 := Lib.hid hr3
    clear hb3 hr3 ho3 W3
    obtain ⟨st, hst⟩ : ∃ x, ByteArray.mk x0.toArray = x := ⟨_, rfl⟩
    have q1 := run_str (P := Try.prog) w3 Try.underlying24 Try.underlying5 Try.underlying9 HR23.out c2
    have q2 := run_str (P := Try.prog) w3 Try.underlying24 Try.underlying5 Try.underlying9 HR3.out c3
    rw [hst] at q1 q2
    go_wp2_with fail
    go_ret
    exact ⟨ret_b (by simp), HB3.out⟩
  · have d1 : decide ((bn : Int) > 2000) = true := decide_eq_true (by omega)
    go_wp2_with fail
    go_ret
    exact ⟨rfl, HB1.out⟩


theorem own_journalAppends : ownKnob Try.prog.godebug = none := by kernel_rfl
theorem laidOut_journalAppends : laidOutB Try.prog = true := by kernel_rfl
set_option maxRecDepth 100000 in
theorem journalAppends_lifted (os : Os) (started : os.Started) (H : Type) (enc : TypeId × Value → H) :
    ReturnsInHanded {} Try.checked os 4 .any (Rows.journalAppendsSpec.pre6 enc Try.prog Try.f4 Rows.journalAppendsRow.domain false) (Rows.journalAppendsSpec.post enc Try.prog Try.f4 false true false false) := by
  refine returnsInHanded_of_change (C := Try.checked) own_journalAppends started (by kernel_rfl) Try.func4
    (ChangeSpec.witness6 (enc := enc) (C := Try.checked) false ⟨#[], #[.slice none 0 0, .agg #[.int .i64 0, .int .i64 0, .int .i64 0, .int .i64 0, .int .i64 0, .int .i64 0, .int .i64 0]], []⟩ 8 (by kernel_rfl) (by kernel_rfl) (by kernel_rfl) (by kernel_rfl)) ?_
  intro W base args ds gs before hval0 hW hcnd _
  have hval : ∀ (j : Nat) t v, Try.f4.params[j]? = some t → args[j]? = some v → Value.okWide Try.prog W .any base t v := hval0
  have hW' := hW
  obtain ⟨p, q, hA0, hV, rfl, hfz, hnd⟩ := hW
  have hA : DataW.TrodAll enc Try.prog W 0 (fun _ => true) true Try.f4.params.toList args.toList ds p := hA0
  rw [Try.params4] at hA hval
  obtain ⟨v0, vs0, d0, ds0, p0, q0, hargs, rfl, rfl, h0, r0⟩ := trodAll_cons hA
  obtain ⟨v1, vs1, d1, ds1, p1, q1, rfl, rfl, rfl, h1, r1⟩ := trodAll_cons r0
  obtain ⟨rfl, rfl, rfl⟩ := trodAll_nil r1
  obtain rfl : args = #[v0, v1] := by cases args; simp_all
  obtain ⟨rfl, rfl⟩ := trodVars_none hV
  obtain ⟨bA, bn, bc, b, rfl, b1, b2, br⟩ := open_bytes Try.underlying24 Try.underlying5 (by kernel_rfl) (hval 0 24 v0 rfl rfl) h0
  obtain ⟨r, rfl⟩ := open_ride (hval 1 30 v1 rfl rfl) h1
  refine (journalAppends_any W bA bn bc b b1 b2 br r).mono fun e W' ⟨he, hb⟩ => ?_
  subst he
  exact ⟨_, rfl, law_post laidOut_journalAppends (by kernel_rfl) rfl rfl Try.underlying4 hW' rfl hb⟩

theorem journalAppends_holds : Rows.JournalAppendsSaid :=
  OpenClaim.holds_of_wide 4 Try.f4 rfl rfl rfl rfl rfl rfl rfl ⟨rfl, rfl, rfl, rfl, rfl⟩ rfl rfl rfl rfl rfl (by kernel_rfl) Try.func4 (by kernel_rfl)
    (of_decide_eq_true (by kernel_rfl)) (by unfold Func.isWrapper; rw [if_neg (by decide +kernel)]; exact ⟨rfl, rfl⟩)
    (fun os started H enc _ => journalAppends_lifted os started H enc)
#print axioms journalAppends_holds

end Go.Proofs.Ytdmkkpnjakdnnaa
