/-
  CodecForms answers true for every input. Its conditions: none.
-/
import Derived.Test.YtcaeadcpddhdkaaCodecA
import Derived.Test.YtcaeadcpddhdkaaRow
import Derived.Deep.RegionHeld3
namespace Go.Proofs.Ytcaeadcpddhdkaa
open Go.ChangeShapes Go.WideShapes Go.ChangeAt Go.RowKit

theorem get_form2' {b : List UInt8} {N K E : Nat} (hg : getN b = (N, K, E)) : (E = 0 ∧ 1 ≤ K ∧ K ≤ b.length ∧ (N < 9223372036854775808 ∧ putN N = b.take K)) ∨ E ≠ 0 := by
  rcases getN_cases b with ⟨N', K', hg', h1, _, h3, h4, h5, _⟩ | ⟨E', hg', hE, _⟩
  · rw [hg] at hg'
    simp only [Prod.mk.injEq] at hg'
    obtain ⟨rfl, rfl, rfl⟩ := hg'
    exact .inl ⟨rfl, h1, h3, h4, h5⟩
  · rw [hg] at hg'
    simp only [Prod.mk.injEq] at hg'
    exact .inr (by omega)
theorem text_form2 {b t : List UInt8} {k e : Nat} (h : textG b = (t, k, e)) : (e = 0 ∧ 1 ≤ k ∧ k ≤ b.length ∧ (t.length ≤ 2000 ∧ textP t = b.take k)) ∨ e ≠ 0 := by
  rcases Nat.eq_zero_or_pos e with rfl | h0
  · obtain ⟨h1, h2, h3, h4⟩ := textG_form h
    exact .inl ⟨rfl, h1, h2, h3, h4⟩
  · exact .inr (by omega)
theorem list_form2 {b : List UInt8} {t : List Nat} {k e : Nat} (h : listG b = (t, k, e)) : (e = 0 ∧ 1 ≤ k ∧ k ≤ b.length ∧ (t.length ≤ 10000 ∧ (∀ x ∈ t, x < 9223372036854775808) ∧ listP (toI t) = b.take k)) ∨ e ≠ 0 := by
  rcases Nat.eq_zero_or_pos e with rfl | h0
  · obtain ⟨h1, h2, h3, h4, h5⟩ := listG_form h
    exact .inl ⟨rfl, h1, h2, h3, h4, h5⟩
  · exact .inr (by omega)
theorem frame_form2 {b t : List UInt8} {k e : Nat} (h : unfG b = (t, k, e)) : (e = 0 ∧ 5 ≤ k ∧ k ≤ b.length ∧ (t.length ≤ 65536 ∧ frameN t = b.take k)) ∨ e ≠ 0 := by
  rcases Nat.eq_zero_or_pos e with rfl | h0
  · obtain ⟨h1, h2, h3, h4⟩ := unfG_form h
    exact .inl ⟨rfl, h1, h2, h3, h4⟩
  · exact .inr (by omega)
theorem toI_wf {t : List Nat} (h : ∀ x ∈ t, x < 9223372036854775808) : ∀ z ∈ toI t, (Lit.int .i64 z).wf = true := by
  intro z hz
  obtain ⟨x, hx, rfl⟩ := List.mem_map.1 hz
  have := h x hx
  exact WalkArith.wf_i64 (by omega)

set_option maxRecDepth 100000 in
set_option maxHeartbeats 1000000 in
theorem codecForms_any (w : World) (bA : Option Addr) (bn bc : Nat) (b : List UInt8) (b1 : bn ≤ bc) (b2 : bc ≤ maxLen) (br : Bytes w w.heap.size bA bn b) :
    Calls Try.prog 10 #[.slice bA bn bc] w fun e w' => e = .returned (.bool true) ∧ Below w.heap.size w w' := by
  have HR := Lib.hid br
  have HL := Lib.hid br.blen
  clear br
  have HM := Lib.hid b2
  unfold maxLen at b2
  by_cases h4 : bn ≤ 4000
  · obtain ⟨N, K, E, hg⟩ : ∃ N K E, getN b = (N, K, E) := ⟨_, _, _, rfl⟩
    obtain ⟨t1, k1, e1, ht1⟩ : ∃ t k e, textG b = (t, k, e) := ⟨_, _, _, rfl⟩
    obtain ⟨t2, k2, e2, ht2⟩ : ∃ t k e, listG b = (t, k, e) := ⟨_, _, _, rfl⟩
    obtain ⟨t3, k3, e3, ht3⟩ : ∃ t k e, unfG b = (t, k, e) := ⟨_, _, _, rfl⟩
    have HG := Lib.hid hg
    have HT1 := Lib.hid ht1
    have HT2 := Lib.hid ht2
    have HT3 := Lib.hid ht3
    clear hg ht1 ht2 ht3
    go_enter Try.func10, Try.ntmps10
    go_wp2_with fail
    with_reducible refine (alive_any _).mono ?_
    rintro e w1 ⟨rfl, hb1⟩
    have HR1 := Lib.hid (HR.out.now hb1)
    have HB1 := Lib.hid hb1
    clear hb1
    go_wp2_with fail
    with_reducible refine (get_any N K E _ _ _ _ _ _ HR1.out HG.out).mono ?_
    rintro e w' ⟨rfl, rfl⟩
    go_upto_if 46 with (fail)
    go_cut [46] (fun s wx => s = .bool false ∧ Below w.heap.size w wx)
    case first =>
      rcases get_form2' HG.out with ⟨hE, hk1, hk2, hp⟩ | hE
      · rw [HL.out] at hk2
        subst hE
        have HNb := Lib.hid hp.1
        have HP := Lib.hid hp.2
        have HAll := Lib.hid (HR1.out.bfront hk2)
        have d1 : decide ((K : Int) < 1) = false := by simp; omega
        have d2 : decide ((bn : Int) < (K : Int)) = false := by simp; omega
        have d3 : decide (bn < K) = false := by simp; omega
        have g3 : (K : Int) ≤ (bc : Int) := by omega
        clear hp
        go_region_held3 (fun _ => True) (trivial) (first
          | (go_at_call 15
             with_reducible refine (Put_any none 0 0 0 [] (N : Int) N _ Reads.empty (by omega) (Nat.zero_le _) (by have := HNb.out; omega) (by simp)).mono ?_
             rintro e w2 ⟨v2, rfl, hown2, hb2⟩
             rw [List.nil_append, HP.out] at hown2
             obtain ⟨A2, n2, c2, rfl, HN2, hc21, hc22, hr2⟩ := hown2.nam
             have HV2 := Lib.hid hr2
             have HAll2 := Lib.hid ((HAll.out.drewN _).now hb2)
             have HB2 := Lib.hid hb2
             clear hown2 hb2 hr2)
          | (go_at_call 14
             with_reducible refine (sameb_any true _ _ _ _ _ _ _ _ _ _ _ HV2.out HAll2.out (by simp)).mono ?_
             rintro e w3 ⟨rfl, rfl⟩))
        go_wp2_with fail
        go_meet
        exact ⟨rfl, HB1.out.trans ((below_drewN (Below.refl _ _) _).trans (HB2.out.mono HB1.out.size))⟩
      · have hb : ((E : Int) == 0) = false := beq_eq_false_iff_ne.2 (by omega)
        clear hE
        go_wp2_with fail
        go_quiet (fail)
        go_wp2_with fail
        go_meet
        exact ⟨rfl, below_drewN HB1.out _⟩
    obtain ⟨rfl, hcut⟩ := hcut
    have HR1 := Lib.hid (HR.out.now hcut)
    have HB1 := Lib.hid hcut
    clear hcut
    go_wp2_with fail
    with_reducible refine (gtext_any _ _ _ _ _ t1 k1 e1 _ HR1.out (by omega) b1 HM.out HT1.out).mono ?_
    rintro e w' ⟨rfl, rfl⟩
    go_upto_if 73 with (fail)
    go_cut [73] (fun s wx => s = .bool false ∧ Below w.heap.size w wx)
    case first =>
      rcases text_form2 HT1.out with ⟨hE, hk1, hk2, hp⟩ | hE
      · rw [HL.out] at hk2
        subst hE
        have HTs : Hid ((ByteArray.mk t1.toArray).size ≤ 100000) := by
          have := hp.1
          exact hide (show t1.toArray.size ≤ 100000 by simp; omega)
        have HP := Lib.hid hp.2
        have HAll := Lib.hid (HR1.out.bfront hk2)
        have d1 : decide ((k1 : Int) < 1) = false := by simp; omega
        have d2 : decide ((bn : Int) < (k1 : Int)) = false := by simp; omega
        have d3 : decide (bn < k1) = false := by simp; omega
        have g3 : (k1 : Int) ≤ (bc : Int) := by omega
        clear hp
        go_region_held3 (fun _ => True) (trivial) (first
          | (go_at_call 23
             with_reducible refine (ptext_any none 0 0 0 [] ⟨t1.toArray⟩ _ Reads.empty (by omega) HTs.out (Nat.zero_le _)).mono ?_
             rintro e w2 ⟨v2, rfl, hown2, hb2⟩
             rw [List.nil_append, show textP (ByteArray.mk t1.toArray).data.toList = textP t1 from rfl, HP.out] at hown2
             obtain ⟨A2, n2, c2, rfl, HN2, hc21, hc22, hr2⟩ := hown2.nam
             have HV2 := Lib.hid hr2
             have HAll2 := Lib.hid ((HAll.out.drewN _).now hb2)
             have HB2 := Lib.hid hb2
             clear hown2 hb2 hr2)
          | (go_at_call 14
             with_reducible refine (sameb_any true _ _ _ _ _ _ _ _ _ _ _ HV2.out HAll2.out (by simp)).mono ?_
             rintro e w3 ⟨rfl, rfl⟩))
        go_wp2_with fail
        go_meet
        exact ⟨rfl, HB1.out.trans ((below_drewN (Below.refl _ _) _).trans (HB2.out.mono HB1.out.size))⟩
      · have hb : ((e1 : Int) == 0) = false := beq_eq_false_iff_ne.2 (by omega)
        clear hE
        go_wp2_with fail
        go_quiet (fail)
        go_wp2_with fail
        go_meet
        exact ⟨rfl, below_drewN HB1.out _⟩
    obtain ⟨rfl, hcut⟩ := hcut
    have HR1 := Lib.hid (HR.out.now hcut)
    have HB1 := Lib.hid hcut
    clear hcut
    go_wp2_with fail
    with_reducible refine (glist_any _ _ _ _ t2 k2 e2 _ HR1.out (by omega) b1 HM.out HT2.out).mono ?_
    rintro e w' ⟨v', rfl, hown', hb'⟩
    obtain ⟨A', n', c', rfl, HN', hc1', hc2', hr'⟩ := hown'.nam
    have HI := Lib.hid hr'
    have HR1 := Lib.hid (HR1.out.now hb')
    have HB1 := Lib.hid (HB1.out.trans (hb'.mono HB1.out.size))
    clear hown' hb' hr' hc1' hc2'
    go_upto_if 100 with (fail)
    go_cut [100] (fun s wx => s = .bool false ∧ Below w.heap.size w wx)
    case first =>
      rcases list_form2 HT2.out with ⟨hE, hk1, hk2, hp⟩ | hE
      · rw [HL.out] at hk2
        subst hE
        have HLn : Hid ((toI t2).length ≤ 10000) := by have := hp.1; exact hide (by simp only [toI, List.length_map]; omega)
        have HLw := Lib.hid (toI_wf hp.2.1)
        have HP := Lib.hid hp.2.2
        have HAll := Lib.hid (HR1.out.bfront hk2)
        have d1 : decide ((k2 : Int) < 1) = false := by simp; omega
        have d2 : decide ((bn : Int) < (k2 : Int)) = false := by simp; omega
        have d3 : decide (bn < k2) = false := by simp; omega
        have g3 : (k2 : Int) ≤ (bc : Int) := by omega
        clear hp
        go_region_held3 (fun _ => True) (trivial) (first
          | (go_at_call 24
             with_reducible refine (plist_any none 0 0 [] _ _ _ _ _ Reads.empty (by omega) (HI.out.drewN _) (by have := HLn.out; have := HN'.out; omega) HLw.out).mono ?_
             rintro e w2 ⟨v2, rfl, hown2, hb2⟩
             rw [List.nil_append, HP.out] at hown2
             obtain ⟨A2, n2, c2, rfl, HN2, hc21, hc22, hr2⟩ := hown2.nam
             have HV2 := Lib.hid hr2
             have HAll2 := Lib.hid ((HAll.out.drewN _).now hb2)
             have HB2 := Lib.hid hb2
             clear hown2 hb2 hr2)
          | (go_at_call 14
             with_reducible refine (sameb_any true _ _ _ _ _ _ _ _ _ _ _ HV2.out HAll2.out (by simp)).mono ?_
             rintro e w3 ⟨rfl, rfl⟩))
        go_wp2_with fail
        go_meet
        exact ⟨rfl, HB1.out.trans ((below_drewN (Below.refl _ _) _).trans (HB2.out.mono HB1.out.size))⟩
      · have hb : ((e2 : Int) == 0) = false := beq_eq_false_iff_ne.2 (by omega)
        clear hE
        go_wp2_with fail
        go_quiet (fail)
        go_wp2_with fail
        go_meet
        exact ⟨rfl, below_drewN HB1.out _⟩
    obtain ⟨rfl, hcut⟩ := hcut
    have HR1 := Lib.hid (HR.out.now hcut)
    have HB1 := Lib.hid hcut
    clear hcut
    go_wp2_with fail
    with_reducible refine (unf_any _ _ _ _ t3 k3 e3 _ HR1.out (by omega) b1 HM.out HT3.out).mono ?_
    rintro e w' ⟨v', rfl, hown', hb'⟩
    obtain ⟨A', n', c', rfl, HN', hc1', hc2', hr'⟩ := hown'.nam
    have HI := Lib.hid hr'
    have HR1 := Lib.hid (HR1.out.now hb')
    have HB1 := Lib.hid (HB1.out.trans (hb'.mono HB1.out.size))
    clear hown' hb' hr' hc1' hc2'
    go_upto_if 126 with (fail)
    go_cut [2, 126] (fun r s wx => r = .bool true ∧ s = .bool true ∧ Below w.heap.size w wx)
    case first =>
      rcases frame_form2 HT3.out with ⟨hE, hk1, hk2, hp⟩ | hE
      · rw [HL.out] at hk2
        subst hE
        have hb00 : True := trivial
        have HFn := Lib.hid hp.1
        have HP := Lib.hid hp.2
        have HAll := Lib.hid (HR1.out.bfront hk2)
        have d1 : decide (5 ≤ (k3 : Int)) = true := by simp; omega
        have d4 : decide ((k3 : Int) ≤ (bn : Int)) = true := by simp; omega
        have d5 : decide (k3 ≤ bn) = true := by simp; omega
        have d2 : decide ((bn : Int) < (k3 : Int)) = false := by simp; omega
        have d3 : decide (bn < k3) = false := by simp; omega
        have g3 : (k3 : Int) ≤ (bc : Int) := by omega
        clear hp
        go_region_held3 (fun _ => True) (trivial) (first
          | (go_at_call 19
             with_reducible refine (frame_any _ _ _ _ _ (HI.out.drewN _) (by have := HFn.out; have := HN'.out; omega)).mono ?_
             rintro e w2 ⟨v2, rfl, hown2, hb2⟩
             rw [HP.out] at hown2
             obtain ⟨A2, n2, c2, rfl, HN2, hc21, hc22, hr2⟩ := hown2.nam
             have HV2 := Lib.hid hr2
             have HAll2 := Lib.hid ((HAll.out.drewN _).now hb2)
             have HB2 := Lib.hid hb2
             clear hown2 hb2 hr2)
          | (go_at_call 14
             with_reducible refine (sameb_any true _ _ _ _ _ _ _ _ _ _ _ HV2.out HAll2.out (by simp)).mono ?_
             rintro e w3 ⟨rfl, rfl⟩))
        go_wp2_with fail
        go_meet
        exact ⟨rfl, rfl, HB1.out.trans ((below_drewN (Below.refl _ _) _).trans (HB2.out.mono HB1.out.size))⟩
      · have hb : ((e3 : Int) != 0) = true := by rw [bne_iff_ne]; omega
        clear hE
        go_wp2_with fail
        go_quiet (fail)
        go_wp2_with fail
        go_meet
        exact ⟨rfl, rfl, below_drewN HB1.out _⟩
    obtain ⟨rfl, rfl, hcut⟩ := hcut
    have HB1 := Lib.hid hcut
    clear hcut
    go_wp2_with fail
    go_ret
    refine ⟨rfl, ?_⟩
    exact HB1.out
  · go_enter Try.func10, Try.ntmps10
    go_wp2_with fail
    with_reducible refine (alive_any _).mono ?_
    rintro e w1 ⟨rfl, hb1⟩
    go_wp2_with fail
    go_ret
    exact ⟨rfl, hb1⟩


theorem own_codecForms : ownKnob Try.prog.godebug = none := by kernel_rfl
theorem laidOut_codecForms : laidOutB Try.prog = true := by kernel_rfl
set_option maxRecDepth 100000 in
theorem codecForms_lifted (os : Os) (started : os.Started) (H : Type) (enc : TypeId × Value → H) :
    ReturnsInHanded {} Try.checked os 10 .any (Rows.codecFormsSpec.pre6 enc Try.prog Try.f10 Rows.codecFormsRow.domain false) (Rows.codecFormsSpec.post enc Try.prog Try.f10 false true false false) := by
  refine returnsInHanded_of_change (C := Try.checked) own_codecForms started (by kernel_rfl) Try.func10
    (ChangeSpec.witness6 (enc := enc) (C := Try.checked) false ⟨#[], #[.slice none 0 0], []⟩ 8 (by kernel_rfl) (by kernel_rfl) (by kernel_rfl) (by kernel_rfl)) ?_
  intro W base args ds gs before hval0 hW hcnd _
  have hval : ∀ (j : Nat) t v, Try.f10.params[j]? = some t → args[j]? = some v → Value.okWide Try.prog W .any base t v := hval0
  have hW' := hW
  obtain ⟨p, q, hA0, hV, rfl, hfz, hnd⟩ := hW
  have hA : DataW.TrodAll enc Try.prog W 0 (fun _ => true) true Try.f10.params.toList args.toList ds p := hA0
  rw [Try.params10] at hA hval
  obtain ⟨v0, vs0, d0, ds0, p0, q0, hargs, rfl, rfl, h0, r0⟩ := trodAll_cons hA
  obtain ⟨rfl, rfl, rfl⟩ := trodAll_nil r0
  obtain rfl : args = #[v0] := by cases args; simp_all
  obtain ⟨rfl, rfl⟩ := trodVars_none hV
  obtain ⟨bA, bn, bc, b, rfl, b1, b2, br⟩ := open_bytes Try.underlying22 Try.underlying5 (by kernel_rfl) (hval 0 22 v0 rfl rfl) h0
  refine (codecForms_any W bA bn bc b b1 b2 br).mono fun e W' ⟨he, hb⟩ => ?_
  subst he
  exact ⟨_, rfl, law_post laidOut_codecForms (by kernel_rfl) rfl rfl Try.underlying4 hW' rfl hb⟩

theorem codecForms_holds : Rows.CodecFormsSaid :=
  OpenClaim.holds_of_wide 10 Try.f10 rfl rfl rfl rfl rfl rfl rfl ⟨rfl, rfl, rfl, rfl, rfl⟩ rfl rfl rfl rfl rfl (by kernel_rfl) Try.func10 (by kernel_rfl)
    (of_decide_eq_true (by kernel_rfl)) (by unfold Func.isWrapper; rw [if_neg (by decide +kernel)]; exact ⟨rfl, rfl⟩)
    (fun os started H enc _ => codecForms_lifted os started H enc)
#print axioms codecForms_holds
end Go.Proofs.Ytcaeadcpddhdkaa
