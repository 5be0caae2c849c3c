/-
  MediaNew answers true for every input. Its conditions: none.
-/
import Derived.Test.YthlhphifibldnaaRowS
import Derived.Test.YthlhphifibldnaaMedL
namespace Go.Proofs.Ythlhphifibldnaa
open Go.ChangeShapes Go.WideShapes Go.ChangeAt Go.RowKit

set_option maxRecDepth 100000 in
set_option maxHeartbeats 4000000 in
theorem mediaNew_any (w : World) (k : Int) (hk : 0 ≤ k ∧ k < 18446744073709551616) (s : Int) (hs : -9223372036854775808 ≤ s ∧ s ≤ 9223372036854775807) (p : Int) (hp : -9223372036854775808 ≤ p ∧ p ≤ 9223372036854775807) (u : Int) (hu : -9223372036854775808 ≤ u ∧ u ≤ 9223372036854775807) :
    Calls Try.prog 4 #[.int .u64 k, .int .i64 s, .int .i64 p, .int .i64 u] w fun e w' => e = .returned (.bool true) ∧ Below w.heap.size w w' := by
  obtain ⟨key, rfl⟩ := Int.eq_ofNat_of_zero_le hk.1
  have hkk : key < 18446744073709551616 := by omega
  by_cases h : 1 ≤ s ∧ s ≤ 9999 ∧ 1 ≤ p ∧ p ≤ 9999 ∧ 0 ≤ u ∧ u ≤ 100
  · obtain ⟨T, hT⟩ : ∃ T, tagM key (newM s p u) = T := ⟨_, rfl⟩
    obtain ⟨t, ht⟩ : ∃ t : Int, t = (T : Int) := ⟨_, rfl⟩
    obtain ⟨t2, ht2⟩ : ∃ t2 : Int, t2 = (T : Int) := ⟨_, rfl⟩
    have H1 : Hid (∀ W : World, Calls Try.prog 13 #[.int .u64 (key : Int), .int .i64 s, .int .i64 p, .int .i64 u] W fun e w' => e = .returned (.tuple #[.agg #[.int .i64 s, .int .i64 0, .int .i64 p, .int .i64 (-1), .int .i64 u, .int .i64 (-1), .int .i64 0, .int .i64 (-1), .int .u64 t], .int .i64 0]) ∧ Below W.heap.size W w') := by
      intro W
      rw [ht]
      exact new_ok key s p u hkk W h T hT
    have H2 : Hid (∀ W : World, Calls Try.prog 14 #[.int .u64 (key : Int), .int .i64 s, .int .i64 p, .int .i64 u] W fun e w' => e = .returned (.tuple #[.agg #[.int .i64 s, .int .i64 0, .int .i64 p, .int .i64 (-1), .int .i64 u, .int .i64 (-1), .int .i64 0, .int .i64 (-1), .int .u64 t2], .int .i64 0]) ∧ Below W.heap.size W w') := by
      intro W
      rw [ht2]
      exact rnew_ok key s p u hkk W h T hT
    have d1 : (t == t2) = true := beq_iff_eq.2 (ht.trans ht2.symm)
    clear hT ht ht2 h
    go_enter Try.func4, Try.ntmps4
    go_wp2_with fail
    refine (alive_any _).mono ?_
    rintro e w1 ⟨rfl, hb1⟩
    have HP0_1 := Lib.hid hb1
    clear hb1
    go_wp2_with fail
    refine (H1.out _).mono ?_
    rintro e w2 ⟨rfl, hb2⟩
    have HP0_2 := Lib.hid (HP0_1.out.trans (hb2.mono HP0_1.out.size))
    clear hb2
    go_wp2_with
      (first
       | (refine wpList_store_blk rfl 24 (.tmp 9) (.tmp 21) rfl w2.heap.size #[.int .i64 s, .int .i64 0, .int .i64 p, .int .i64 (-1), .int .i64 u, .int .i64 (-1), .int .i64 0, .int .i64 (-1), .int .u64 t] rfl rfl _ _ (Blk.new w2 24 #[.int .i64 0, .int .i64 0, .int .i64 0, .int .i64 0, .int .i64 0, .int .i64 0, .int .i64 0, .int .i64 0, .int .u64 0]) (by kernel_rfl) rfl (by simp [Value.oneCell']) ?_
          intro w3 hx3 hon3
          have hb3 := hon3.below (below_new w2 (.cells #[.int .i64 0, .int .i64 0, .int .i64 0, .int .i64 0, .int .i64 0, .int .i64 0, .int .i64 0, .int .i64 0, .int .u64 0] 24)) (Nat.le_refl _)
          have HP0_3 := Lib.hid (HP0_2.out.trans (hb3.mono HP0_2.out.size))
          have HX3 := Lib.hid hx3
          have hl3 : w2.heap.size < w3.heap.size := hx3.lt
          have HP3_3 := Lib.hid (Below.refl w3.heap.size w3)
          clear hx3 hon3 hb3))
    refine (H2.out _).mono ?_
    rintro e w4 ⟨rfl, hb4⟩
    have HP0_4 := Lib.hid (HP0_3.out.trans (hb4.mono HP0_3.out.size))
    have HP3_4 := Lib.hid (HP3_3.out.trans (hb4.mono HP3_3.out.size))
    clear hb4
    go_wp2_with
      (first
       | (refine wpList_store_blk rfl 24 (.tmp 11) (.tmp 29) rfl w4.heap.size #[.int .i64 s, .int .i64 0, .int .i64 p, .int .i64 (-1), .int .i64 u, .int .i64 (-1), .int .i64 0, .int .i64 (-1), .int .u64 t2] rfl rfl _ _ (Blk.new w4 24 #[.int .i64 0, .int .i64 0, .int .i64 0, .int .i64 0, .int .i64 0, .int .i64 0, .int .i64 0, .int .i64 0, .int .u64 0]) (by kernel_rfl) rfl (by simp [Value.oneCell']) ?_
          intro w5 hx5 hon5
          have hb5 := hon5.below (below_new w4 (.cells #[.int .i64 0, .int .i64 0, .int .i64 0, .int .i64 0, .int .i64 0, .int .i64 0, .int .i64 0, .int .i64 0, .int .u64 0] 24)) (Nat.le_refl _)
          have HP0_5 := Lib.hid (HP0_4.out.trans (hb5.mono HP0_4.out.size))
          have HP3_5 := Lib.hid (HP3_4.out.trans (hb5.mono HP3_4.out.size))
          have HX5 := Lib.hid hx5
          have hl5 : w4.heap.size < w5.heap.size := hx5.lt
          have HP5_5 := Lib.hid (Below.refl w5.heap.size w5)
          clear hx5 hon5 hb5)
       | (refine wpList_load_g 24 (.tmp 9) rfl rfl w2.heap.size rfl _ _ (HX3.out.below HP3_5.out hl3) _ Try.underlying24 rfl (by kernel_rfl) ?_)
       | (refine wpList_load_g 24 (.tmp 11) rfl rfl w4.heap.size rfl _ _ HX5.out _ Try.underlying24 rfl (by kernel_rfl) ?_))
    go_ret
    exact ⟨rfl, HP0_5.out⟩
  · have H1 := Lib.hid (fun W => new_bad (key : Int) s p u hk W h)
    have H2 := Lib.hid (fun W => rnew_bad (key : Int) s p u hk W h)
    clear h
    go_enter Try.func4, Try.ntmps4
    go_wp2_with fail
    refine (alive_any _).mono ?_
    rintro e w1 ⟨rfl, hb1⟩
    have HP0_1 := Lib.hid hb1
    clear hb1
    go_wp2_with fail
    refine (H1.out _).mono ?_
    rintro e w2 ⟨rfl, hb2⟩
    have HP0_2 := Lib.hid (HP0_1.out.trans (hb2.mono HP0_1.out.size))
    clear hb2
    go_wp2_with
      (first
       | (refine wpList_store_blk rfl 24 (.tmp 9) (.tmp 21) rfl w2.heap.size #[.int .i64 0, .int .i64 0, .int .i64 0, .int .i64 0, .int .i64 0, .int .i64 0, .int .i64 0, .int .i64 0, .int .u64 0] rfl rfl _ _ (Blk.new w2 24 #[.int .i64 0, .int .i64 0, .int .i64 0, .int .i64 0, .int .i64 0, .int .i64 0, .int .i64 0, .int .i64 0, .int .u64 0]) (by kernel_rfl) rfl (by simp [Value.oneCell']) ?_
          intro w3 hx3 hon3
          have hb3 := hon3.below (below_new w2 (.cells #[.int .i64 0, .int .i64 0, .int .i64 0, .int .i64 0, .int .i64 0, .int .i64 0, .int .i64 0, .int .i64 0, .int .u64 0] 24)) (Nat.le_refl _)
          have HP0_3 := Lib.hid (HP0_2.out.trans (hb3.mono HP0_2.out.size))
          have HX3 := Lib.hid hx3
          have hl3 : w2.heap.size < w3.heap.size := hx3.lt
          have HP3_3 := Lib.hid (Below.refl w3.heap.size w3)
          clear hx3 hon3 hb3))
    refine (H2.out _).mono ?_
    rintro e w4 ⟨rfl, hb4⟩
    have HP0_4 := Lib.hid (HP0_3.out.trans (hb4.mono HP0_3.out.size))
    have HP3_4 := Lib.hid (HP3_3.out.trans (hb4.mono HP3_3.out.size))
    clear hb4
    go_wp2_with
      (first
       | (refine wpList_store_blk rfl 24 (.tmp 11) (.tmp 29) rfl w4.heap.size #[.int .i64 0, .int .i64 0, .int .i64 0, .int .i64 0, .int .i64 0, .int .i64 0, .int .i64 0, .int .i64 0, .int .u64 0] rfl rfl _ _ (Blk.new w4 24 #[.int .i64 0, .int .i64 0, .int .i64 0, .int .i64 0, .int .i64 0, .int .i64 0, .int .i64 0, .int .i64 0, .int .u64 0]) (by kernel_rfl) rfl (by simp [Value.oneCell']) ?_
          intro w5 hx5 hon5
          have hb5 := hon5.below (below_new w4 (.cells #[.int .i64 0, .int .i64 0, .int .i64 0, .int .i64 0, .int .i64 0, .int .i64 0, .int .i64 0, .int .i64 0, .int .u64 0] 24)) (Nat.le_refl _)
          have HP0_5 := Lib.hid (HP0_4.out.trans (hb5.mono HP0_4.out.size))
          have HP3_5 := Lib.hid (HP3_4.out.trans (hb5.mono HP3_4.out.size))
          have HX5 := Lib.hid hx5
          have hl5 : w4.heap.size < w5.heap.size := hx5.lt
          have HP5_5 := Lib.hid (Below.refl w5.heap.size w5)
          clear hx5 hon5 hb5)
       | (refine wpList_load_g 24 (.tmp 9) rfl rfl w2.heap.size rfl _ _ (HX3.out.below HP3_5.out hl3) _ Try.underlying24 rfl (by kernel_rfl) ?_)
       | (refine wpList_load_g 24 (.tmp 11) rfl rfl w4.heap.size rfl _ _ HX5.out _ Try.underlying24 rfl (by kernel_rfl) ?_))
    go_ret
    exact ⟨rfl, HP0_5.out⟩


theorem own_mediaNew : ownKnob Try.prog.godebug = none := by kernel_rfl
theorem laidOut_mediaNew : laidOutB Try.prog = true := by kernel_rfl
set_option maxRecDepth 100000 in
theorem mediaNew_lifted (os : Os) (started : os.Started) (H : Type) (enc : TypeId × Value → H) :
    ReturnsInHanded {} Try.checked os 4 .any (Rows.mediaNewSpec.pre6 enc Try.prog Try.f4 Rows.mediaNewRow.domain false) (Rows.mediaNewSpec.post enc Try.prog Try.f4 false true false false) := by
  refine returnsInHanded_of_change (C := Try.checked) own_mediaNew started (by kernel_rfl) Try.func4
    (ChangeSpec.witness6 (enc := enc) (C := Try.checked) false ⟨#[], #[.int .u64 0, .int .i64 0, .int .i64 0, .int .i64 0], []⟩ 8 (by kernel_rfl) (by kernel_rfl) (by kernel_rfl) (by kernel_rfl)) ?_
  intro W base args ds gs before hval0 hW hcnd _
  have hval : ∀ (j : Nat) t v, Try.f4.params[j]? = some t → args[j]? = some v → Value.okWide Try.prog W .any base t v := hval0
  have hW' := hW
  obtain ⟨p, q, hA0, hV, rfl, hfz, hnd⟩ := hW
  have hA : DataW.TrodAll enc Try.prog W 0 (fun _ => true) true Try.f4.params.toList args.toList ds p := hA0
  rw [Try.params4] at hA hval
  obtain ⟨v0, vs0, d0, ds0, p0, q0, hargs, rfl, rfl, h0, r0⟩ := trodAll_cons hA
  obtain ⟨v1, vs1, d1, ds1, p1, q1, rfl, rfl, rfl, h1, r1⟩ := trodAll_cons r0
  obtain ⟨v2, vs2, d2, ds2, p2, q2, rfl, rfl, rfl, h2, r2⟩ := trodAll_cons r1
  obtain ⟨v3, vs3, d3, ds3, p3, q3, rfl, rfl, rfl, h3, r3⟩ := trodAll_cons r2
  obtain ⟨rfl, rfl, rfl⟩ := trodAll_nil r3
  obtain rfl : args = #[v0, v1, v2, v3] := by cases args; simp_all
  obtain ⟨rfl, rfl⟩ := trodVars_none hV
  obtain ⟨k, rfl, k0, k1⟩ := open_u64 Try.underlying22 (hval 0 22 v0 rfl rfl) h0
  obtain ⟨s, rfl, s0, s1⟩ := open_i64 Try.underlying3 (hval 1 3 v1 rfl rfl) h1
  obtain ⟨p, rfl, p0, p1⟩ := open_i64 Try.underlying3 (hval 2 3 v2 rfl rfl) h2
  obtain ⟨u, rfl, u0, u1⟩ := open_i64 Try.underlying3 (hval 3 3 v3 rfl rfl) h3
  refine (mediaNew_any W k ⟨k0, k1⟩ s ⟨s0, s1⟩ p ⟨p0, p1⟩ u ⟨u0, u1⟩).mono fun e W' ⟨he, hb⟩ => ?_
  subst he
  exact ⟨_, rfl, law_post laidOut_mediaNew (by kernel_rfl) rfl rfl Try.underlying4 hW' rfl hb⟩

theorem mediaNew_holds : Rows.MediaNewSaid :=
  OpenClaim.holds_of_wide 4 Try.f4 rfl rfl rfl rfl rfl rfl rfl ⟨rfl, rfl, rfl, rfl, rfl⟩ rfl rfl rfl rfl rfl (by kernel_rfl) Try.func4 (by kernel_rfl)
    (of_decide_eq_true (by kernel_rfl)) (by unfold Func.isWrapper; rw [if_neg (by decide +kernel)]; exact ⟨rfl, rfl⟩)
    (fun os started H enc _ => mediaNew_lifted os started H enc)
#print axioms mediaNew_holds
end Go.Proofs.Ythlhphifibldnaa
