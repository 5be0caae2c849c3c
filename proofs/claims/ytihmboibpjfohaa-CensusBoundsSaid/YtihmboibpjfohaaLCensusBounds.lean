/-
  CensusBounds answers true for every input. Its conditions: none.
-/
import Derived.Test.YtihmboibpjfohaaRows
import Derived.Test.YtihmboibpjfohaaCenR
import Derived.Test.YtihmboibpjfohaaCenBn
namespace Go.Proofs.Ytihmboibpjfohaa
open Go.ChangeShapes Go.WideShapes Go.ChangeAt Go.RowKit

set_option maxRecDepth 100000 in
set_option maxHeartbeats 4000000 in
theorem censusBounds_any (w : World) (v : Value) (l : List Cr) (hv : StrV Cr.cells 4 w w.heap.size v l) (t : Int) (ht : -9223372036854775808 ≤ t ∧ t ≤ 9223372036854775807) :
    Calls Try.prog 6 #[v, .int .i64 t] w fun e w' => e = .returned (.bool true) ∧ Below w.heap.size w w' := by
  obtain ⟨A, n, c, rfl, HN, hc1, hc2, hr⟩ := hv.nam
  have HV := Lib.hid hv
  have hm := Int.ofNat_le.2 (show n ≤ maxLen by omega)
  clear hv hr
  go_enter Try.func6, Try.ntmps6
  go_wp2_with fail
  with_reducible refine (alive_any _).mono ?_
  rintro e w1 ⟨rfl, hb1⟩
  have HB1 := Lib.hid hb1
  have HV1 := Lib.hid (HV.out.now hb1)
  clear hb1
  by_cases hs : n ≤ 100
  · have d1 : decide ((n : Int) > 100) = false := decide_eq_false (by omega)
    have hl3 : l.length ≤ 2000 := by have := HN.out; omega
    go_wp2_with fail
    with_reducible refine (right_any _ l _ HV1.out).mono ?_
    rintro e w2 ⟨rfl, hb2⟩
    have HB2 := Lib.hid (HB1.out.trans (hb2.mono HB1.out.size))
    have HV2 := Lib.hid (HV1.out.now hb2)
    clear hb2
    by_cases h0 : rightC l = 0
    · have d2 : (((rightC l : Nat) : Int) != 0) = false := by rw [h0]; rfl
      obtain ⟨_, hin, _, hso⟩ := right_ok h0
      have HIn := Lib.hid hin
      have HNn : Hid (0 ≤ onC l t) := hide (on_nonneg h0 t)
      have HPk : Hid (onC l t ≤ ppC l l.length) := hide (on_peak hso t)
      have HUp : Hid (∀ k, 0 ≤ sumF (upF t) (l.take k) ∧ sumF (upF t) (l.take k) ≤ 1000 * (k : Int)) := fun k => ⟨sum_pos _ _ fun c hc => (upF_bound (hin c (List.mem_of_mem_take hc)) t).1, (sumF_take (upF t) l k fun c hc => ⟨by have := upF_bound (hin c hc) t; omega, (upF_bound (hin c hc) t).2⟩).2⟩
      have HGo : Hid (∀ k, 0 ≤ sumF (goF t) (l.take k) ∧ sumF (goF t) (l.take k) ≤ 1000 * (k : Int)) := fun k => ⟨sum_pos _ _ fun c hc => (goF_bound (hin c (List.mem_of_mem_take hc)) t).1, (sumF_take (goF t) l k fun c hc => ⟨by have := goF_bound (hin c hc) t; omega, (goF_bound (hin c hc) t).2⟩).2⟩
      have HCin : Hid (∀ k, k < n → inC (l.getD k cr0) = true) := fun k hk => hin _ (cr_mem (by rw [HN.out]; exact hk))
      clear hin hso h0
      generalize ((rightC l : Nat) : Int) = r at *
      go_wp2_with fail
      go_loop [5, 6, 7, 8] (fun a b f i => ∃ k : Nat, k ≤ n ∧ i = .int .i64 k ∧ a = .int .i64 (sumF (upF t) (l.take k)) ∧ b = .int .i64 (sumF (goF t) (l.take k)) ∧ f = .bool (anyA t (l.take k))) (fun _ _ _ i => n - (intOf i).toNat)
      case atStart => exact ⟨0, by omega, rfl, rfl, rfl, rfl⟩
      case round =>
        obtain ⟨k, hk, rfl, rfl, rfl, rfl⟩ := hrel
        by_cases hlt : k < n
        · have hkl : k < l.length := by rw [HN.out]; exact hlt
          obtain ⟨Ax, cx, hvx, hx1, hx2, hxr⟩ := HV2.out
          have hvx' := hvx
          injection hvx' with e1 e2 e3
          subst e1 e3
          have HSx : Hid (Strs Cr.cells 4 w2 w2.heap.size A n l) := hide (by rw [← HN.out]; exact hxr)
          clear hvx hx1 hx2 hxr
          obtain ⟨ad, rfl, hab, hcl⟩ := strs_at HSx.out (fun _ => rfl) HN.out hlt cr0
          have HU1 := Lib.hid (sumF_snoc (upF t) hkl)
          have HG1 := Lib.hid (sumF_snoc (goF t) hkl)
          have HA1 := Lib.hid (anyA_snoc t hkl)
          have hci := of_decide_eq_true (HCin.out k hlt)
          have hub := HUp.out k
          have hgb := HGo.out k
          have HUd : Hid (upF t (l.getD k cr0) = if (l.getD k cr0).att ≤ t ∧ (l.getD k cr0).kind = 1 then (l.getD k cr0).num else 0) := hide rfl
          have HGd : Hid (goF t (l.getD k cr0) = if (l.getD k cr0).att ≤ t ∧ (l.getD k cr0).kind ≠ 1 then (l.getD k cr0).num else 0) := hide rfl
          rw [HUd.out] at HU1
          rw [HGd.out] at HG1
          clear HUd HGd
          obtain ⟨⟨kd, pl, nm, at_⟩, hq⟩ : ∃ q, l.getD k cr0 = q := ⟨_, rfl⟩
          rw [hq] at hcl HU1 HG1 HA1 hci
          simp only at HU1 HG1 HA1 hci
          have hnm := hci.2.2.2.2
          clear hci hq
          have f0 : w2.cell? (ad.add (k * 4)) = some (.int .i64 kd) := by
            have h := hcl 0 _ rfl
            rwa [show (ad.add (k * 4)).add 0 = ad.add (k * 4) by unfold Addr.add; simp] at h
          have f2 : w2.cell? ⟨(ad.add (k * 4)).block, (ad.add (k * 4)).off + 2, none⟩ = some (.int .i64 nm) := hcl 2 _ rfl
          have f3 : w2.cell? ⟨(ad.add (k * 4)).block, (ad.add (k * 4)).off + 3, none⟩ = some (.int .i64 at_) := hcl 3 _ rfl
          obtain ⟨U1, hU1⟩ : ∃ x, sumF (upF t) (l.take (k + 1)) = x := ⟨_, rfl⟩
          obtain ⟨G1, hG1⟩ : ∃ x, sumF (goF t) (l.take (k + 1)) = x := ⟨_, rfl⟩
          obtain ⟨B1, hB1⟩ : ∃ x, anyA t (l.take (k + 1)) = x := ⟨_, rfl⟩
          rw [hU1] at HU1
          rw [hG1] at HG1
          rw [hB1] at HA1
          have HU2 := Lib.hid hU1
          have HG2 := Lib.hid hG1
          have HB2' := Lib.hid hB1
          generalize sumF (upF t) (l.take k) = U at *
          generalize sumF (goF t) (l.take k) = G at *
          generalize anyA t (l.take k) = b0 at *
          clear hcl hU1 hG1 hB1 hkl
          by_cases h1 : t < at_
          · have d3 : decide (at_ > t) = true := decide_eq_true h1
            have hU : Hid (U1 = U) := by show _ = _; rw [HU1.out, if_neg (by omega)]; omega
            have hG : Hid (G1 = G) := by show _ = _; rw [HG1.out, if_neg (by omega)]; omega
            have hB : Hid (B1 = b0) := by show _ = _; rw [HA1.out, beq_eq_false_iff_ne.2 (by omega), Bool.or_false]
            go_wp2_with fail
            go_round
            case rel => exact ⟨k + 1, by omega, by go_num, by rw [HU2.out, hU.out], by rw [HG2.out, hG.out], by rw [HB2'.out, hB.out]⟩
            case measure => simp [intOf]; omega
          · have d3 : decide (at_ > t) = false := decide_eq_false h1
            obtain ⟨eb, heb⟩ : ∃ x, (at_ == t) = x := ⟨_, rfl⟩
            rw [heb] at HA1
            by_cases h2 : kd = 1
            · have d4 : (kd == 1) = true := beq_iff_eq.2 h2
              have hU : Hid (U1 = U + nm) := by show _ = _; rw [HU1.out, if_pos ⟨by omega, h2⟩]
              have hG : Hid (G1 = G) := by show _ = _; rw [HG1.out, if_neg (fun h => h.2 h2)]; omega
              clear h2
              cases b0 with
              | true =>
                go_wp2_with fail
                go_round
                case rel => exact ⟨k + 1, by omega, by go_num, by rw [HU2.out, hU.out], by rw [HG2.out, hG.out], by rw [HB2'.out, HA1.out]; rfl⟩
                case measure => simp [intOf]; omega
              | false =>
                go_wp2_with fail
                go_round
                case rel => exact ⟨k + 1, by omega, by go_num, by rw [HU2.out, hU.out], by rw [HG2.out, hG.out], by rw [HB2'.out, HA1.out]; rfl⟩
                case measure => simp [intOf]; omega
            · have d4 : (kd == 1) = false := beq_eq_false_iff_ne.2 h2
              have hU : Hid (U1 = U) := by show _ = _; rw [HU1.out, if_neg (fun h => h2 h.2)]; omega
              have hG : Hid (G1 = G + nm) := by show _ = _; rw [HG1.out, if_pos ⟨by omega, h2⟩]
              cases b0 with
              | true =>
                go_wp2_with fail
                go_round
                case rel => exact ⟨k + 1, by omega, by go_num, by rw [HU2.out, hU.out], by rw [HG2.out, hG.out], by rw [HB2'.out, HA1.out]; rfl⟩
                case measure => simp [intOf]; omega
              | false =>
                go_wp2_with fail
                go_round
                case rel => exact ⟨k + 1, by omega, by go_num, by rw [HU2.out, hU.out], by rw [HG2.out, hG.out], by rw [HB2'.out, HA1.out]; rfl⟩
                case measure => simp [intOf]; omega
        · obtain rfl : k = n := by omega
          have hT : l.take k = l := List.take_of_length_le (by rw [HN.out]; exact Nat.le_refl _)
          have hub := HUp.out k
          have hgb := HGo.out k
          have HOn : Hid (∀ W x, StrV Cr.cells 4 W W.heap.size (.slice A k c) l → Calls Try.prog 15 #[.slice A k c, .int .i64 x] W fun e w' => e = .returned (.int .i64 (onC l x)) ∧ Below W.heap.size W w') := fun W x h => on_any _ l x W h hl3 HIn.out
          have HPe : Hid (∀ W, StrV Cr.cells 4 W W.heap.size (.slice A k c) l → Calls Try.prog 17 #[.slice A k c] W fun e w' => e = .returned (.int .i64 (ppC l l.length)) ∧ Below W.heap.size W w') := fun W h => peak_any _ l W h hl3 HIn.out
          have HEq := Lib.hid (on_up t l)
          have HBf : Hid (anyA t l = false → onC l (t - 1) = onC l t) := fun h => on_before h
          have HOt := Lib.hid (HOn.out w2 t HV2.out)
          have HOb : Hid (∀ W, StrV Cr.cells 4 W W.heap.size (.slice A k c) l → Calls Try.prog 15 #[.slice A k c, .int .i64 (t - 1)] W fun e w' => e = .returned (.int .i64 (onC l (t - 1))) ∧ Below W.heap.size W w') := fun W h => HOn.out W (t - 1) h
          rw [hT] at hub hgb ⊢
          clear HUp HGo HCin hT HOn
          have hn0 := HNn.out
          have hpk := HPk.out
          generalize sumF (upF t) l = U at *
          generalize sumF (goF t) l = G at *
          generalize anyA t l = bb at *
          generalize onC l (t - 1) = N1 at *
          generalize onC l t = N at *
          generalize ppC l l.length = P at *
          have he := HEq.out
          have e1 : decide (N < 0) = false := decide_eq_false (by omega)
          have e2 : (N != U - G) = false := by rw [he]; simp
          have e3 : decide (N > U) = false := decide_eq_false (by omega)
          have e4 : decide (N > P) = false := decide_eq_false (by omega)
          have hNb : N ≤ 1000 * (k : Int) := by omega
          clear he
          go_wp2_with fail
          with_reducible refine HOt.out.mono ?_
          rintro e w3 ⟨rfl, hb3⟩
          have HB3 := Lib.hid (HB2.out.trans (hb3.mono HB2.out.size))
          have HV3 := Lib.hid (HV2.out.now hb3)
          clear hb3
          go_wp2_with fail
          with_reducible refine (HPe.out _ HV3.out).mono ?_
          rintro e w4 ⟨rfl, hb4⟩
          have HB4 := Lib.hid (HB3.out.trans (hb4.mono HB3.out.size))
          have HV4 := Lib.hid (HV3.out.now hb4)
          clear hb4
          cases bb with
          | true =>
            go_wp2_with fail
            go_ret
            exact ⟨rfl, HB4.out⟩
          | false =>
            by_cases ht1 : t < 1
            · have d5 : decide (t < 1) = true := decide_eq_true ht1
              go_wp2_with fail
              go_ret
              exact ⟨rfl, HB4.out⟩
            · have d5 : decide (t < 1) = false := decide_eq_false ht1
              go_wp2_with fail
              with_reducible refine (HOb.out _ HV4.out).mono ?_
              rintro e w5 ⟨rfl, hb5⟩
              have HB5 := Lib.hid (HB4.out.trans (hb5.mono HB4.out.size))
              have e5 : (N1 == N) = true := beq_iff_eq.2 (HBf.out trivial)
              clear hb5
              go_wp2_with fail
              go_ret
              exact ⟨rfl, HB5.out⟩
    · have d2 : (((rightC l : Nat) : Int) != 0) = true := bne_iff_ne.2 (by omega)
      generalize ((rightC l : Nat) : Int) = r at *
      go_wp2_with fail
      go_ret
      exact ⟨rfl, HB2.out⟩
  · have d1 : decide ((n : Int) > 100) = true := decide_eq_true (by omega)
    go_wp2_with fail
    go_ret
    exact ⟨rfl, HB1.out⟩


theorem own_censusBounds : ownKnob Try.prog.godebug = none := by kernel_rfl
theorem laidOut_censusBounds : laidOutB Try.prog = true := by kernel_rfl
set_option maxRecDepth 100000 in
theorem censusBounds_lifted (os : Os) (started : os.Started) (H : Type) (enc : TypeId × Value → H) :
    ReturnsInHanded {} Try.checked os 6 .any (Rows.censusBoundsSpec.pre6 enc Try.prog Try.f6 Rows.censusBoundsRow.domain false) (Rows.censusBoundsSpec.post enc Try.prog Try.f6 false true false false) := by
  refine returnsInHanded_of_change (C := Try.checked) own_censusBounds started (by kernel_rfl) Try.func6
    (ChangeSpec.witness6 (enc := enc) (C := Try.checked) false ⟨#[], #[.slice none 0 0, .int .i64 0], []⟩ 8 (by kernel_rfl) (by kernel_rfl) (by kernel_rfl) (by kernel_rfl)) ?_
  intro W base args ds gs before hval0 hW hcnd _
  have hval : ∀ (j : Nat) t v, Try.f6.params[j]? = some t → args[j]? = some v → Value.okWide Try.prog W .any base t v := hval0
  have hW' := hW
  obtain ⟨p, q, hA0, hV, rfl, hfz, hnd⟩ := hW
  have hA : DataW.TrodAll enc Try.prog W 0 (fun _ => true) true Try.f6.params.toList args.toList ds p := hA0
  rw [Try.params6] at hA hval
  obtain ⟨v0, vs0, d0, ds0, p0, q0, hargs, rfl, rfl, h0, r0⟩ := trodAll_cons hA
  obtain ⟨v1, vs1, d1, ds1, p1, q1, rfl, rfl, rfl, h1, r1⟩ := trodAll_cons r0
  obtain ⟨rfl, rfl, rfl⟩ := trodAll_nil r1
  obtain rfl : args = #[v0, v1] := by cases args; simp_all
  obtain ⟨rfl, rfl⟩ := trodVars_none hV
  obtain ⟨l, hl⟩ := open_crs (hval 0 22 v0 rfl rfl) h0
  obtain ⟨t, rfl, t0, t1⟩ := open_i64 Try.underlying3 (hval 1 3 v1 rfl rfl) h1
  refine (censusBounds_any W v0 l hl t ⟨t0, t1⟩).mono fun e W' ⟨he, hb⟩ => ?_
  subst he
  exact ⟨_, rfl, law_post laidOut_censusBounds (by kernel_rfl) rfl rfl Try.underlying4 hW' rfl hb⟩

theorem censusBounds_holds : Rows.CensusBoundsSaid :=
  OpenClaim.holds_of_wide 6 Try.f6 rfl rfl rfl rfl rfl rfl rfl ⟨rfl, rfl, rfl, rfl, rfl⟩ rfl rfl rfl rfl rfl (by kernel_rfl) Try.func6 (by kernel_rfl)
    (of_decide_eq_true (by kernel_rfl)) (by unfold Func.isWrapper; rw [if_neg (by decide +kernel)]; exact ⟨rfl, rfl⟩)
    (fun os started H enc _ => censusBounds_lifted os started H enc)
#print axioms censusBounds_holds

end Go.Proofs.Ytihmboibpjfohaa
