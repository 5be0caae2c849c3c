/-
  MediaDecodes answers true for every input. Its conditions: none.
-/
import Derived.Test.YthlhphifibldnaaRowS
import Derived.Test.YthlhphifibldnaaMedL
namespace Go.Proofs.Ythlhphifibldnaa
open Go.ChangeShapes Go.WideShapes Go.ChangeAt Go.RowKit

set_option maxRecDepth 100000 in
set_option maxHeartbeats 4000000 in
theorem mediaDecodes_any (w : World) (bA : Option Addr) (bn bc : Nat) (b : List UInt8) (b1 : bn ≤ bc) (b2 : bc ≤ maxLen) (br : Bytes w w.heap.size bA bn b) :
    Calls Try.prog 7 #[.slice bA bn bc] w fun e w' => e = .returned (.bool true) ∧ Below w.heap.size w w' := by
  have HB := Lib.hid br
  have HM := Lib.hid b2
  clear br b2
  by_cases hn : bn ≤ 1000
  · go_enter Try.func7, Try.ntmps7
    go_wp2_with fail
    refine (alive_any _).mono ?_
    rintro e w1 ⟨rfl, hb1⟩
    have HD1 := Lib.hid (HB.out.now hb1)
    have HP0_1 := Lib.hid hb1
    clear hb1
    go_wp2_with fail
    refine (decode_any _ _ _ _ _ HD1.out (by omega) b1 HM.out).mono ?_
    rintro e w2 ⟨m, r, rfl, hd, hb2⟩
    have HD2 := Lib.hid (HD1.out.now hb2)
    have HP0_2 := Lib.hid (HP0_1.out.trans (hb2.mono HP0_1.out.size))
    obtain ⟨ser, cnt, prd, fst, lft, tdy, lif, at_, tag⟩ := m
    have HQ := Lib.hid hd
    clear hb2 hd
    go_wp2_with
      (first
       | (refine wpList_store_blk rfl 24 (.tmp 3) (.tmp 15) rfl w2.heap.size #[.int .i64 ser, .int .i64 cnt, .int .i64 prd, .int .i64 fst, .int .i64 lft, .int .i64 tdy, .int .i64 lif, .int .i64 at_, .int .u64 tag] rfl rfl _ _ (Blk.new w2 24 #[.int .i64 0, .int .i64 0, .int .i64 0, .int .i64 0, .int .i64 0, .int .i64 0, .int .i64 0, .int .i64 0, .int .u64 0]) (by kernel_rfl) rfl (by simp [Value.oneCell']) ?_
          intro w3 hx3 hon3
          have hb3 := hon3.below (below_new w2 (.cells #[.int .i64 0, .int .i64 0, .int .i64 0, .int .i64 0, .int .i64 0, .int .i64 0, .int .i64 0, .int .i64 0, .int .u64 0] 24)) (Nat.le_refl _)
          have HP0_3 := Lib.hid (HP0_2.out.trans (hb3.mono HP0_2.out.size))
          have HX3 := Lib.hid hx3
          have hl3 : w2.heap.size < w3.heap.size := hx3.lt
          have HP3_3 := Lib.hid (Below.refl w3.heap.size w3)
          have HD3 := Lib.hid (HD2.out.now hb3)
          clear hx3 hon3 hb3))
    refine (rdecode_any _ _ _ _ _ HD3.out (by omega) b1 HM.out).mono ?_
    rintro e w4 ⟨m', r', rfl, hd', hb4⟩
    have HP0_4 := Lib.hid (HP0_3.out.trans (hb4.mono HP0_3.out.size))
    have HP3_4 := Lib.hid (HP3_3.out.trans (hb4.mono HP3_3.out.size))
    obtain ⟨ser', cnt', prd', fst', lft', tdy', lif', at_', tag'⟩ := m'
    have hu := HQ.out.unique hd'
    obtain ⟨hm, hrr⟩ := hu
    simp only [Med.mk.injEq] at hm
    obtain ⟨eser, ecnt, eprd, efst, elft, etdy, elif, eat_, etag⟩ := hm
    have dser : (ser == ser') = true := beq_iff_eq.2 eser
    have dcnt : (cnt == cnt') = true := beq_iff_eq.2 ecnt
    have dprd : (prd == prd') = true := beq_iff_eq.2 eprd
    have dfst : (fst == fst') = true := beq_iff_eq.2 efst
    have dlft : (lft == lft') = true := beq_iff_eq.2 elft
    have dtdy : (tdy == tdy') = true := beq_iff_eq.2 etdy
    have dlif : (lif == lif') = true := beq_iff_eq.2 elif
    have dat_ : (at_ == at_') = true := beq_iff_eq.2 eat_
    have dtag : (tag == tag') = true := beq_iff_eq.2 etag
    have drr : (r == r') = true := beq_iff_eq.2 hrr
    clear hd' hb4 hrr etag eser ecnt eprd efst elft etdy elif eat_
    go_wp2_with
      (first
       | (refine wpList_store_blk rfl 24 (.tmp 5) (.tmp 20) rfl w4.heap.size #[.int .i64 ser', .int .i64 cnt', .int .i64 prd', .int .i64 fst', .int .i64 lft', .int .i64 tdy', .int .i64 lif', .int .i64 at_', .int .u64 tag'] rfl rfl _ _ (Blk.new w4 24 #[.int .i64 0, .int .i64 0, .int .i64 0, .int .i64 0, .int .i64 0, .int .i64 0, .int .i64 0, .int .i64 0, .int .u64 0]) (by kernel_rfl) rfl (by simp [Value.oneCell']) ?_
          intro w5 hx5 hon5
          have hb5 := hon5.below (below_new w4 (.cells #[.int .i64 0, .int .i64 0, .int .i64 0, .int .i64 0, .int .i64 0, .int .i64 0, .int .i64 0, .int .i64 0, .int .u64 0] 24)) (Nat.le_refl _)
          have HP0_5 := Lib.hid (HP0_4.out.trans (hb5.mono HP0_4.out.size))
          have HP3_5 := Lib.hid (HP3_4.out.trans (hb5.mono HP3_4.out.size))
          have HX5 := Lib.hid hx5
          have hl5 : w4.heap.size < w5.heap.size := hx5.lt
          have HP5_5 := Lib.hid (Below.refl w5.heap.size w5)
          clear hx5 hon5 hb5)
       | (refine wpList_load_g 24 (.tmp 3) rfl rfl w2.heap.size rfl _ _ (HX3.out.below HP3_5.out hl3) _ Try.underlying24 rfl (by kernel_rfl) ?_)
       | (refine wpList_load_g 24 (.tmp 5) rfl rfl w4.heap.size rfl _ _ HX5.out _ Try.underlying24 rfl (by kernel_rfl) ?_))
    go_ret
    exact ⟨rfl, HP0_5.out⟩
  · go_enter Try.func7, Try.ntmps7
    go_wp2_with fail
    refine (alive_any _).mono ?_
    rintro e w1 ⟨rfl, hb1⟩
    go_wp2_with fail
    go_ret
    exact ⟨rfl, hb1⟩


theorem own_mediaDecodes : ownKnob Try.prog.godebug = none := by kernel_rfl
theorem laidOut_mediaDecodes : laidOutB Try.prog = true := by kernel_rfl
set_option maxRecDepth 100000 in
theorem mediaDecodes_lifted (os : Os) (started : os.Started) (H : Type) (enc : TypeId × Value → H) :
    ReturnsInHanded {} Try.checked os 7 .any (Rows.mediaDecodesSpec.pre6 enc Try.prog Try.f7 Rows.mediaDecodesRow.domain false) (Rows.mediaDecodesSpec.post enc Try.prog Try.f7 false true false false) := by
  refine returnsInHanded_of_change (C := Try.checked) own_mediaDecodes started (by kernel_rfl) Try.func7
    (ChangeSpec.witness6 (enc := enc) (C := Try.checked) false ⟨#[], #[.slice none 0 0], []⟩ 8 (by kernel_rfl) (by kernel_rfl) (by kernel_rfl) (by kernel_rfl)) ?_
  intro W base args ds gs before hval0 hW hcnd _
  have hval : ∀ (j : Nat) t v, Try.f7.params[j]? = some t → args[j]? = some v → Value.okWide Try.prog W .any base t v := hval0
  have hW' := hW
  obtain ⟨p, q, hA0, hV, rfl, hfz, hnd⟩ := hW
  have hA : DataW.TrodAll enc Try.prog W 0 (fun _ => true) true Try.f7.params.toList args.toList ds p := hA0
  rw [Try.params7] at hA hval
  obtain ⟨v0, vs0, d0, ds0, p0, q0, hargs, rfl, rfl, h0, r0⟩ := trodAll_cons hA
  obtain ⟨rfl, rfl, rfl⟩ := trodAll_nil r0
  obtain rfl : args = #[v0] := by cases args; simp_all
  obtain ⟨rfl, rfl⟩ := trodVars_none hV
  obtain ⟨bA, bn, bc, b, rfl, b1, b2, br⟩ := open_bytes Try.underlying35 Try.underlying5 (by kernel_rfl) (hval 0 35 v0 rfl rfl) h0
  refine (mediaDecodes_any W bA bn bc b b1 b2 br).mono fun e W' ⟨he, hb⟩ => ?_
  subst he
  exact ⟨_, rfl, law_post laidOut_mediaDecodes (by kernel_rfl) rfl rfl Try.underlying4 hW' rfl hb⟩

theorem mediaDecodes_holds : Rows.MediaDecodesSaid :=
  OpenClaim.holds_of_wide 7 Try.f7 rfl rfl rfl rfl rfl rfl rfl ⟨rfl, rfl, rfl, rfl, rfl⟩ rfl rfl rfl rfl rfl (by kernel_rfl) Try.func7 (by kernel_rfl)
    (of_decide_eq_true (by kernel_rfl)) (by unfold Func.isWrapper; rw [if_neg (by decide +kernel)]; exact ⟨rfl, rfl⟩)
    (fun os started H enc _ => mediaDecodes_lifted os started H enc)
#print axioms mediaDecodes_holds
end Go.Proofs.Ythlhphifibldnaa
