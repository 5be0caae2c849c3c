/-
  MediaForms answers true for every input. Its conditions: none.
-/
import Derived.Test.YthlhphifibldnaaRowS
import Derived.Test.YthlhphifibldnaaMedL
namespace Go.Proofs.Ythlhphifibldnaa
open Go.ChangeShapes Go.WideShapes Go.ChangeAt Go.RowKit

theorem dec_ok {l : List UInt8} {m : Med} (h : DecP l m 0) : GoodM m ∧ encN m = l := by
  obtain ⟨b, k, E, _, hc⟩ := h
  rcases hc with ⟨c1, _, h⟩ | ⟨_, _, _, h⟩ | ⟨_, _, ⟨h1, h2, _⟩ | ⟨_, _, h⟩⟩
  · omega
  · omega
  · exact ⟨h1, h2⟩
  · omega
theorem dec_bad {l : List UInt8} {m : Med} {e : Int} (h : DecP l m e) (he : e ≠ 0) : m = zeroM := by
  obtain ⟨b, k, E, _, hc⟩ := h
  rcases hc with ⟨_, h, _⟩ | ⟨_, _, h, _⟩ | ⟨_, _, ⟨_, _, h⟩ | ⟨_, h, _⟩⟩
  · exact h
  · exact h
  · exact (he h).elim
  · exact h

set_option maxRecDepth 100000 in
set_option maxHeartbeats 4000000 in
theorem mediaForms_any (w : World) (bA : Option Addr) (bn bc : Nat) (b : List UInt8) (b1 : bn ≤ bc) (b2 : bc ≤ maxLen) (br : Bytes w w.heap.size bA bn b) :
    Calls Try.prog 9 #[.slice bA bn bc] w fun e w' => e = .returned (.bool true) ∧ Below w.heap.size w w' := by
  have HD := Lib.hid br
  have HL := Lib.hid br.blen
  have HM := Lib.hid b2
  clear br b2
  by_cases hn : bn ≤ 1000
  · go_enter Try.func9, Try.ntmps9
    go_wp2_with fail
    refine (alive_any _).mono ?_
    rintro e w1 ⟨rfl, hb1⟩
    have HD1 := Lib.hid (HD.out.now hb1)
    have HB1 := Lib.hid hb1
    clear hb1
    go_wp2_with fail
    refine (decode_any _ _ _ _ _ HD1.out (by omega) b1 HM.out).mono ?_
    rintro e w2 ⟨m, r, rfl, hd, hb2⟩
    have HD2 := Lib.hid (HD1.out.now hb2)
    have HB2 := Lib.hid (HB1.out.trans (hb2.mono HB1.out.size))
    clear hb2
    by_cases h0 : r = 0
    · subst h0
      obtain ⟨hg, he⟩ := dec_ok hd
      obtain ⟨hra, hst, T, hTl, ht⟩ := hg
      have HU : Hid (unfG b = (bodyN m ++ be8 T, bn, 0)) := by
        show _ = _
        have h := encN_unf ⟨hra, hst, T, hTl, ht⟩
        obtain ⟨T', h1, h2, h3⟩ := h
        obtain rfl : T = T' := by omega
        rw [he, HL.out] at h3
        exact h3
      obtain ⟨ser, cnt, prd, fst, lft, tdy, lif, at_, tag⟩ := m
      simp only at ht
      subst ht
      have HRa := Lib.hid hra
      have HSt := Lib.hid hst
      have HE := Lib.hid he
      clear hd hra hst he
      have HBl : Hid ((bodyN (⟨ser, cnt, prd, fst, lft, tdy, lif, at_, (T : Int)⟩ : Med)).length ≤ 80) := bodyN_len _
      have HBo : Hid (∀ W : World, Calls Try.prog 19 #[.agg #[.int .i64 ser, .int .i64 cnt, .int .i64 prd, .int .i64 fst, .int .i64 lft, .int .i64 tdy, .int .i64 lif, .int .i64 at_, .int .u64 (T : Int)]] W fun e w' => ∃ v, e = .returned v ∧ OwnB w' W.heap.size v (bodyN (⟨ser, cnt, prd, fst, lft, tdy, lif, at_, (T : Int)⟩ : Med)) ∧ Below W.heap.size W w') := fun W => body_any (⟨ser, cnt, prd, fst, lft, tdy, lif, at_, (T : Int)⟩ : Med) W HRa.out
      have HEn : Hid (∀ W : World, Calls Try.prog 22 #[.agg #[.int .i64 ser, .int .i64 cnt, .int .i64 prd, .int .i64 fst, .int .i64 lft, .int .i64 tdy, .int .i64 lif, .int .i64 at_, .int .u64 (T : Int)]] W fun e w' => ∃ v, e = .returned v ∧ OwnB w' W.heap.size v b ∧ Below W.heap.size W w') := by
        intro W
        have h := encode_any (⟨ser, cnt, prd, fst, lft, tdy, lif, at_, (T : Int)⟩ : Med) W T rfl hTl HRa.out
        rw [HE.out] at h
        exact h
      have HRt : Hid (∀ W : World, Calls Try.prog 11 #[.agg #[.int .i64 ser, .int .i64 cnt, .int .i64 prd, .int .i64 fst, .int .i64 lft, .int .i64 tdy, .int .i64 lif, .int .i64 at_, .int .u64 (T : Int)]] W fun e w' => e = .returned (.int .i64 0) ∧ Below W.heap.size W w') := fun W => (mright_any (⟨ser, cnt, prd, fst, lft, tdy, lif, at_, (T : Int)⟩ : Med) W).mono fun e w' ⟨r', he, h1, h2⟩ => ⟨by rw [he, h1.unique (RightE.r0 HRa.out HSt.out)], h2⟩
      generalize bodyN (⟨ser, cnt, prd, fst, lft, tdy, lif, at_, (T : Int)⟩ : Med) = bs at *
      have HDe := Lib.hid (de8_be8 T hTl)
      clear HRa HSt HE
      go_wp2_with
        (refine wpList_store_blk rfl 24 (.tmp 3) (.tmp 19) rfl w2.heap.size #[.int .i64 ser, .int .i64 cnt, .int .i64 prd, .int .i64 fst, .int .i64 lft, .int .i64 tdy, .int .i64 lif, .int .i64 at_, .int .u64 (T : Int)] rfl rfl _ _ (Blk.new w2 24 #[.int .i64 0, .int .i64 0, .int .i64 0, .int .i64 0, .int .i64 0, .int .i64 0, .int .i64 0, .int .i64 0, .int .u64 0]) (by kernel_rfl) rfl (by simp [Value.oneCell']) ?_
         intro w3 hx3 hon3
         have hb3 := hon3.below (below_new w2 (.cells #[.int .i64 0, .int .i64 0, .int .i64 0, .int .i64 0, .int .i64 0, .int .i64 0, .int .i64 0, .int .i64 0, .int .u64 0] 24)) (Nat.le_refl _)
         have HB3 := Lib.hid (HB2.out.trans (hb3.mono HB2.out.size))
         have HD3 := Lib.hid (HD2.out.now hb3)
         have HX3 := Lib.hid hx3
         have hlX3 : w2.heap.size < w3.heap.size := hx3.lt
         clear hx3 hon3 hb3)
      refine (unf_any _ _ _ b _ bn 0 _ HD3.out (by omega) b1 HM.out HU.out).mono ?_
      rintro e w4 ⟨v4, rfl, hown4, hb4⟩
      have HB4 := Lib.hid (HB3.out.trans (hb4.mono HB3.out.size))
      have HX4 := Lib.hid (HX3.out.below hb4 hlX3)
      have hlX4 := Nat.lt_of_lt_of_le hlX3 hb4.size
      have HD4 := Lib.hid (HD3.out.now hb4)
      obtain ⟨A4, n4, c4, rfl, HN4, hc41, hc42, hr4⟩ := hown4.nam
      have HV4 := Lib.hid hr4
      clear hown4 hb4 hr4
      go_wp2_with
        (refine wpList_load_g 24 (.tmp 3) rfl rfl w2.heap.size rfl _ _ HX4.out _ Try.underlying24 rfl (by kernel_rfl) ?_)
      with_reducible refine (HBo.out _).mono ?_
      rintro e w5 ⟨v5, rfl, hown5, hb5⟩
      have HB5 := Lib.hid (HB4.out.trans (hb5.mono HB4.out.size))
      have HX5 := Lib.hid (HX4.out.below hb5 hlX4)
      have hlX5 := Nat.lt_of_lt_of_le hlX4 hb5.size
      have HD5 := Lib.hid (HD4.out.now hb5)
      have HV45 := Lib.hid (HV4.out.now hb5)
      obtain ⟨A5, n5, c5, rfl, HN5, hc51, hc52, hr5⟩ := hown5.nam
      have HV5 := Lib.hid hr5
      clear hown5 hb5 hr5
      have hn45 : n4 = n5 + 8 := by rw [← HN4.out, ← HN5.out, List.length_append, be8_len]
      have hn5 : n5 ≤ 80 := by rw [← HN5.out]; exact HBl.out
      have hc42' := hc42
      unfold maxLen at hc42'
      go_wp2_with
        (refine wpList_load_g 24 (.tmp 3) rfl rfl w2.heap.size rfl _ _ HX5.out _ Try.underlying24 rfl (by kernel_rfl) ?_)
      with_reducible refine (HRt.out _).mono ?_
      rintro e w6 ⟨rfl, hb6⟩
      have HB6 := Lib.hid (HB5.out.trans (hb6.mono HB5.out.size))
      have HX6 := Lib.hid (HX5.out.below hb6 hlX5)
      have hlX6 := Nat.lt_of_lt_of_le hlX5 hb6.size
      have HD6 := Lib.hid (HD5.out.now hb6)
      have HV46 := Lib.hid (HV45.out.now hb6)
      have HV56 := Lib.hid (HV5.out.now hb6)
      clear hb6
      go_wp2_with
        (refine wpList_load_g 24 (.tmp 3) rfl rfl w2.heap.size rfl _ _ HX6.out _ Try.underlying24 rfl (by kernel_rfl) ?_)
      with_reducible refine (HEn.out _).mono ?_
      rintro e w7 ⟨v7, rfl, hown7, hb7⟩
      have HB7 := Lib.hid (HB6.out.trans (hb7.mono HB6.out.size))
      have HX7 := Lib.hid (HX6.out.below hb7 hlX6)
      have hlX7 := Nat.lt_of_lt_of_le hlX6 hb7.size
      have HD7 := Lib.hid (HD6.out.now hb7)
      have HV47 := Lib.hid (HV46.out.now hb7)
      have HV57 := Lib.hid (HV56.out.now hb7)
      obtain ⟨A7, n7, c7, rfl, HN7, hc71, hc72, hr7⟩ := hown7.nam
      have HV7 := Lib.hid hr7
      clear hown7 hb7 hr7
      go_wp2_with fail
      with_reducible refine (sameb_any true _ _ _ _ _ _ _ _ _ _ _ HV7.out HD7.out (by simp)).mono ?_
      rintro e w' ⟨rfl, rfl⟩
      have hfront : Bytes w7 w7.heap.size A4 n5 bs := by
        have h := HV47.out.bfront (show n5 ≤ n4 by omega)
        rw [List.take_append_of_le_length (by rw [HN5.out]; exact Nat.le_refl _), List.take_of_length_le (by rw [HN5.out]; exact Nat.le_refl _)] at h
        exact h
      have HFr := Lib.hid hfront
      clear hfront
      have d1 : ((n4 : Int) != (n5 : Int) + 8) = false := by rw [bne_eq_false_iff_eq]; omega
      have g1 : (n5 : Int) ≤ (c4 : Int) := by omega
      have g2 : n5 ≤ c4 := by omega
      go_wp2_with fail
      with_reducible refine (sameb_any true _ _ _ _ _ _ _ _ _ _ _ HFr.out HV57.out (by simp)).mono ?_
      rintro e w' ⟨rfl, rfl⟩
      go_wp2_with fail
      go_loop [9, 10] (fun s i => ∃ k : Nat, n5 ≤ k ∧ k ≤ n4 ∧ i = .int .i64 k ∧ s = .int .u64 ((de8 ((be8 T).take (k - n5)) : Nat) : Int)) (fun _ i => n4 - (intOf i).toNat)
      case atStart => exact ⟨n5, by omega, by omega, rfl, by rw [Nat.sub_self]; rfl⟩
      case round =>
        obtain ⟨k, hk1, hk2, rfl, rfl⟩ := hrel
        by_cases hlt : k < n4
        · obtain ⟨ad, rfl, _, hcx⟩ := HV47.out.byte hlt
          obtain ⟨j, hj⟩ : ∃ j, j = k - n5 := ⟨_, rfl⟩
          have hj8 : j < 8 := by omega
          have hget : (bs ++ be8 T).getD k 0 = (be8 T).getD j 0 := by
            rw [List.getD_eq_getElem?_getD, List.getD_eq_getElem?_getD, List.getElem?_append_right (by rw [HN5.out]; exact hk1), HN5.out, hj]
          rw [hget] at hcx
          have HDN := Lib.hid (de8_next (be8 T) j (by rw [be8_len]; exact hj8))
          have hS : de8 ((be8 T).take j) < 72057594037927936 := by
            have h := de8_lt ((be8 T).take j)
            have h2 : ((be8 T).take j).length ≤ 7 := by simp; omega
            have h3 := Nat.pow_le_pow_right (show 0 < 256 by omega) h2
            have h4 : (256 : Nat) ^ 7 = 72057594037927936 := by decide
            omega
          have hx := UInt8.toNat_lt ((be8 T).getD j 0)
          rw [← hj]
          have HJ := Lib.hid hj
          clear hget hj
          obtain ⟨S, hSe⟩ : ∃ S, de8 ((be8 T).take j) = S := ⟨_, rfl⟩
          obtain ⟨x, hxe⟩ : ∃ x, ((be8 T).getD j 0).toNat = x := ⟨_, rfl⟩
          rw [hSe] at hS HDN ⊢
          rw [hxe] at hx HDN hcx
          have ho := or8_form S x hS hx
          clear hSe hxe
          go_wp2_with fail
          go_round
          case rel => exact ⟨k + 1, by omega, by omega, by go_num, by rw [show k + 1 - n5 = j + 1 by have := HJ.out; omega, HDN.out]; congr 1⟩
          case measure => simp [intOf]; omega
        · obtain rfl : k = n4 := by omega
          have e8 : de8 ((be8 T).take (k - n5)) = T := by rw [show k - n5 = 8 by omega, List.take_of_length_le (by rw [be8_len]; exact Nat.le_refl _)]; exact HDe.out
          rw [e8]
          have c8 : w7.cell? ⟨w2.heap.size, 8, none⟩ = some (.int .u64 (T : Int)) := HX7.out.cell 8
          clear e8
          go_wp2_with fail
          go_ret
          exact ⟨rfl, HB7.out⟩
    · have hz := dec_bad hd h0
      subst hz
      have d1 : (r != 0) = true := bne_iff_ne.2 h0
      have d2 : (r == 0) = false := beq_eq_false_iff_ne.2 h0
      clear h0 hd
      go_wp2_with
        (first
         | (refine wpList_store_blk rfl 24 (.tmp 3) (.tmp 19) rfl w2.heap.size #[.int .i64 0, .int .i64 0, .int .i64 0, .int .i64 0, .int .i64 0, .int .i64 0, .int .i64 0, .int .i64 0, .int .u64 0] rfl rfl _ _ (Blk.new w2 24 #[.int .i64 0, .int .i64 0, .int .i64 0, .int .i64 0, .int .i64 0, .int .i64 0, .int .i64 0, .int .i64 0, .int .u64 0]) (by kernel_rfl) rfl (by decide +kernel) ?_
            intro w3 hx3 hon3
            have hb3 := hon3.below (below_new w2 (.cells #[.int .i64 0, .int .i64 0, .int .i64 0, .int .i64 0, .int .i64 0, .int .i64 0, .int .i64 0, .int .i64 0, .int .u64 0] 24)) (Nat.le_refl _)
            have HB3 := Lib.hid (HB2.out.trans (hb3.mono HB2.out.size))
            have HX3 := Lib.hid hx3
            clear hx3 hon3 hb3)
         | (refine wpList_load_g 24 (.tmp 3) rfl rfl w2.heap.size rfl _ _ HX3.out _ Try.underlying24 rfl (by kernel_rfl) ?_))
      go_ret
      exact ⟨rfl, HB3.out⟩
  · go_enter Try.func9, Try.ntmps9
    go_wp2_with fail
    refine (alive_any _).mono ?_
    rintro e w1 ⟨rfl, hb1⟩
    go_wp2_with fail
    go_ret
    exact ⟨rfl, hb1⟩


theorem own_mediaForms : ownKnob Try.prog.godebug = none := by kernel_rfl
theorem laidOut_mediaForms : laidOutB Try.prog = true := by kernel_rfl
set_option maxRecDepth 100000 in
theorem mediaForms_lifted (os : Os) (started : os.Started) (H : Type) (enc : TypeId × Value → H) :
    ReturnsInHanded {} Try.checked os 9 .any (Rows.mediaFormsSpec.pre6 enc Try.prog Try.f9 Rows.mediaFormsRow.domain false) (Rows.mediaFormsSpec.post enc Try.prog Try.f9 false true false false) := by
  refine returnsInHanded_of_change (C := Try.checked) own_mediaForms started (by kernel_rfl) Try.func9
    (ChangeSpec.witness6 (enc := enc) (C := Try.checked) false ⟨#[], #[.slice none 0 0], []⟩ 8 (by kernel_rfl) (by kernel_rfl) (by kernel_rfl) (by kernel_rfl)) ?_
  intro W base args ds gs before hval0 hW hcnd _
  have hval : ∀ (j : Nat) t v, Try.f9.params[j]? = some t → args[j]? = some v → Value.okWide Try.prog W .any base t v := hval0
  have hW' := hW
  obtain ⟨p, q, hA0, hV, rfl, hfz, hnd⟩ := hW
  have hA : DataW.TrodAll enc Try.prog W 0 (fun _ => true) true Try.f9.params.toList args.toList ds p := hA0
  rw [Try.params9] at hA hval
  obtain ⟨v0, vs0, d0, ds0, p0, q0, hargs, rfl, rfl, h0, r0⟩ := trodAll_cons hA
  obtain ⟨rfl, rfl, rfl⟩ := trodAll_nil r0
  obtain rfl : args = #[v0] := by cases args; simp_all
  obtain ⟨rfl, rfl⟩ := trodVars_none hV
  obtain ⟨bA, bn, bc, b, rfl, b1, b2, br⟩ := open_bytes Try.underlying35 Try.underlying5 (by kernel_rfl) (hval 0 35 v0 rfl rfl) h0
  refine (mediaForms_any W bA bn bc b b1 b2 br).mono fun e W' ⟨he, hb⟩ => ?_
  subst he
  exact ⟨_, rfl, law_post laidOut_mediaForms (by kernel_rfl) rfl rfl Try.underlying4 hW' rfl hb⟩

theorem mediaForms_holds : Rows.MediaFormsSaid :=
  OpenClaim.holds_of_wide 9 Try.f9 rfl rfl rfl rfl rfl rfl rfl ⟨rfl, rfl, rfl, rfl, rfl⟩ rfl rfl rfl rfl rfl (by kernel_rfl) Try.func9 (by kernel_rfl)
    (of_decide_eq_true (by kernel_rfl)) (by unfold Func.isWrapper; rw [if_neg (by decide +kernel)]; exact ⟨rfl, rfl⟩)
    (fun os started H enc _ => mediaForms_lifted os started H enc)
#print axioms mediaForms_holds
end Go.Proofs.Ythlhphifibldnaa
