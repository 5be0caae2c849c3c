/-
  TopGrooming answers true for every input. Its conditions: none.
-/
import Derived.Test.YtbegehooefhiiaaRows
import Derived.Test.YtbegehooefhiiaaRalB
namespace Go.Proofs.Ytbegehooefhiiaa
open Go.ChangeShapes Go.WideShapes Go.ChangeAt Go.RowKit

theorem i64_bdL {z : Int} (h : (Lit.int .i64 z).wf = true) : -9223372036854775808 ≤ z ∧ z ≤ 9223372036854775807 := by
  have h2 : IntKind.i64.min ≤ z ∧ z ≤ IntKind.i64.max := by simpa [Lit.wf] using h
  exact h2
theorem bestP_le {ts : List Tk} {ws : List Bool} (h : RtOK ts ws) : (bestP ts ws).2 ≤ 518400 := by
  obtain ⟨P, E, h1, _, _, _, h4, _⟩ := search_is h.dur (prob_sym ts ws) h.who (plan0 (probOf ts ws))
  have e : bestP ts ws = (P, E) := h1
  have h5 := (seq_bnd h ts.length (Nat.le_refl _)).2
  have h6 := h.l1
  have h7 : E ≤ seqSt (probOf ts ws) ts.length := h4
  rw [e]
  show E ≤ 518400
  omega
theorem seq_sec (ts : List Tk) (ws : List Bool) : ∀ k, k ≤ ts.length → seqSt (probOf ts ws) k = ((ts.take k).map Tk.sec).sum
  | 0, _ => rfl
  | k + 1, hk => by
    have e : seqSt (probOf ts ws) (k + 1) = seqSt (probOf ts ws) k + (ts.getD k tk0).sec := rfl
    rw [e, seq_sec ts ws k (by omega), tk_take ts k (by omega)]
    simp
theorem mul_bd (E : Int) (n : Nat) (h0 : 0 ≤ E) (h1 : E ≤ 518400) (hn : n ≤ 3) : 0 ≤ E * (n : Int) ∧ E * (n : Int) ≤ 1555200 := by
  rcases n with _ | _ | _ | _ | n
  · simp
  · simp; omega
  · simp; omega
  · simp; omega
  · omega
set_option maxRecDepth 100000 in
set_option maxHeartbeats 4000000 in
theorem topGrooming_any (w : World) (tA : Option Addr) (tn tc : Nat) (ts : List Tk) (t1 : tn ≤ tc) (t2 : tc ≤ maxLen) (tr : Tks w w.heap.size tA tn ts) (bA : Option Addr) (bn bc : Nat) (ws : List Bool) (b1 : bn ≤ bc) (b2 : bc ≤ maxLen) (br : Bools w w.heap.size bA bn ws) (sA : Option Addr) (sn sc : Nat) (sl : List Sh) (s1 : sn ≤ sc) (s2 : sc ≤ maxLen) (sL : sl.length = sn) (sr : Strs Sh.cells 4 w w.heap.size sA sn sl) (sw : ∀ x ∈ sl, (Lit.int .i64 x.tt).wf = true) :
    Calls Try.prog 3 #[.slice tA tn tc, .slice bA bn bc, .slice sA sn sc] w fun e w' => e = .returned (.bool true) ∧ Below w.heap.size w w' := by
  have HT0 := Lib.hid tr
  have HW0 := Lib.hid br
  have HS0 := Lib.hid sr
  have HTl := Lib.hid tr.len
  have HWl := Lib.hid br.boolen
  have HSl := Lib.hid sL
  have HSw : Hid (∀ i, i < sn → -9223372036854775808 ≤ (sl.getD i sh0).tt ∧ (sl.getD i sh0).tt ≤ 9223372036854775807) := fun i hi => i64_bdL (sw _ (by
    have hi' : i < sl.length := by rw [sL]; exact hi
    have e : sl.getD i sh0 = sl[i] := by simp [List.getElem?_eq_getElem hi']
    rw [e]
    exact List.getElem_mem hi'))
  have ht2 := t2
  have hb2 := b2
  have hs2 := s2
  have HBr := Lib.hid t1
  clear tr br sr sL sw
  go_enter Try.func3, Try.ntmps3
  go_wp2_with fail
  with_reducible refine (alive_any _).mono ?_
  rintro e w1 ⟨rfl, hb1⟩
  have HB1 := Lib.hid hb1
  have HT1 := Lib.hid (HT0.out.now hb1)
  have HW1 := Lib.hid (HW0.out.now hb1)
  clear hb1
  simp only [maxLen] at ht2 hb2 hs2
  by_cases ht6 : (tn : Int) > 6
  · go_wp2_with fail
    go_ret
    exact ⟨rfl, HB1.out⟩
  by_cases hb3 : (bn : Int) > 3
  · go_wp2_with fail
    go_ret
    exact ⟨rfl, HB1.out⟩
  by_cases hs6 : (sn : Int) > 6
  · go_wp2_with fail
    go_ret
    exact ⟨rfl, HB1.out⟩
  have HRi := Lib.hid (rright_any tA bA tn tc bn bc ts ws w1 HT1.out HW1.out (by simp only [maxLen]; omega) (by simp only [maxLen]; omega))
  go_wp2_with fail
  with_reducible refine HRi.out.mono ?_
  rintro e w2 ⟨r, rfl, hok, hb2'⟩
  have HB2 := Lib.hid (HB1.out.trans (hb2'.mono HB1.out.size))
  clear hb2' HRi HT1 HW1 HB1
  by_cases hr0 : r = 0
  rotate_left
  · have hrb : (r != 0) = true := bne_iff_ne.2 hr0
    clear hok hr0
    go_wp2_with fail
    go_ret
    exact ⟨rfl, HB2.out⟩
  subst hr0
  have HOk := Lib.hid (hok rfl)
  have HT2 := Lib.hid (HT0.out.now HB2.out)
  have HW2 := Lib.hid (HW0.out.now HB2.out)
  clear hok
  have HB0 : Hid (Below w.heap.size w w) := hide (Below.refl _ _)
  obtain ⟨hP, hG, hE0, hBest⟩ := bestP_is HOk.out
  have hE1 := bestP_le HOk.out
  have HVa := Lib.hid (part_va HOk.out hP hG)
  have HEq : Hid (∀ r, EndP (bestP ts ws).1 r → r = (bestP ts ws).2) := fun r h => part_end HOk.out hP hG h
  have HSec : Hid (∀ i, i < tn → (ts.getD i tk0).sec ≤ (bestP ts ws).2) := fun i hi => part_sec hP hG (by rw [HTl.out]; exact hi)
  have HSum : Hid (seqSt (probOf ts ws) tn ≤ (bestP ts ws).2 * (bn : Int)) := hide (by
    have h1 := part_sum hP hG
    rw [HWl.out] at h1
    have h2 := seq_sec ts ws tn (by rw [HTl.out]; exact Nat.le_refl _)
    rw [List.take_of_length_le (by rw [HTl.out]; exact Nat.le_refl _)] at h2
    rw [h2]
    exact h1)
  have HFe : Hid (∀ r, VaP ts ws sl → EndP sl r → (bestP ts ws).2 ≤ r) := fun r h1 h2 => by
    obtain ⟨h0, gr, st, hF⟩ := va_feas HOk.out h1 h2
    exact hBest gr st r h0 hF
  have HPl : Hid ((bestP ts ws).1.length = tn) := hide (by rw [hP.len]; exact HTl.out)
  have HPt : Hid (∀ i, i < tn → -9223372036854775808 ≤ ((bestP ts ws).1.getD i sh0).tt ∧ ((bestP ts ws).1.getD i sh0).tt ≤ 9223372036854775807) := fun i hi => by
    have hi' : i < (probOf ts ws).n := by show i < ts.length; rw [HTl.out]; exact hi
    obtain ⟨k, _, _, _, _, h1, h2⟩ := hP.shape i hi' (hG i hi')
    have h3 := HOk.out.dur i hi'
    have h4 := hP.top i hi' (hG i hi')
    omega
  have HBe := Lib.hid (best_any tA bA tn tc bn bc ts ws w2 HT2.out HW2.out t1 t2 HOk.out)
  have HLe : Hid (∀ W, Below w.heap.size w W → Calls Try.prog 7 #[.slice tA tn tc, .slice bA bn bc] W (LeR (bestP ts ws).2 W)) := fun W h => least_any tA bA tn tc bn bc ts ws W (HT0.out.now h) (HW0.out.now h) t1 t2 HOk.out
  have HSq : Hid (∀ k, k < tn → seqSt (probOf ts ws) (k + 1) = seqSt (probOf ts ws) k + (ts.getD k tk0).sec ∧ 0 ≤ seqSt (probOf ts ws) k ∧ seqSt (probOf ts ws) k ≤ 600000 ∧ 1 ≤ (ts.getD k tk0).sec ∧ (ts.getD k tk0).sec ≤ 86400) := fun k hk => by
    have h1 := seq_bnd HOk.out k (by rw [HTl.out]; omega)
    have h2 := (HOk.out.each _ (tk_mem (show k < ts.length by rw [HTl.out]; exact hk))).2.1
    exact ⟨rfl, h1.1, by omega, h2.1, h2.2⟩
  have HSq0 : Hid (seqSt (probOf ts ws) 0 = 0) := rfl
  have HV2 : Hid (∀ W, Below w.heap.size w W → Calls Try.prog 8 #[.slice tA tn tc, .slice bA bn bc, .slice sA sn sc] W (IffR (VaP ts ws sl) W)) := fun W h => valid_any tA bA sA tn tc bn bc sn sc ts ws sl W (HT0.out.now h) (HW0.out.now h) (HS0.out.now h) HSl.out t1 t2 s1 s2 HOk.out HSw.out
  have HE2 : Hid (∀ W, Below w.heap.size w W → Calls Try.prog 9 #[.slice sA sn sc] W (EndR sl W)) := fun W h => end_any sA sn sc sl W (HS0.out.now h) HSl.out (Nat.le_trans s1 s2)
  have hMb := mul_bd (bestP ts ws).2 bn hE0 hE1 (by omega)
  clear hP hG hBest HT2 HW2
  have HV1 : Hid (∀ W gp, Below w.heap.size w W → Strs Sh.cells 4 W W.heap.size (some ⟨gp, 0, none⟩) tn (bestP ts ws).1 → Calls Try.prog 8 #[.slice tA tn tc, .slice bA bn bc, .slice (some ⟨gp, 0, none⟩) tn tn] W (IffR (VaP ts ws (bestP ts ws).1) W)) := fun W gp h hS => valid_any tA bA _ tn tc bn bc tn tn ts ws _ W (HT0.out.now h) (HW0.out.now h) hS HPl.out t1 t2 (Nat.le_refl _) (by simp only [maxLen]; omega) HOk.out HPt.out
  generalize (bestP ts ws).1 = P at *
  generalize (bestP ts ws).2 = E at *
  go_wp2_with fail
  with_reducible refine HBe.out.mono ?_
  rintro e w3 ⟨gp, rfl, hO, hb⟩
  have HO3 := Lib.hid hO
  have HB3 := Lib.hid (HB2.out.trans (hb.mono HB2.out.size))
  clear hO hb HBe HB2
  go_wp2_with fail
  with_reducible refine (HLe.out w3 HB3.out).mono ?_
  rintro e w4 ⟨rfl, hb⟩
  have HO4 := Lib.hid (own_below HO3.out hb (Nat.le_refl _))
  have HB4 := Lib.hid (HB3.out.trans (hb.mono HB3.out.size))
  clear hb HLe HO3 HB3
  go_wp2_with fail
  with_reducible refine (HV1.out w4 gp HB4.out (ownSh_strs HO4.out)).mono ?_
  rintro e w5 ⟨b, rfl, hiff, hb⟩
  obtain rfl : b = true := hiff.2 HVa.out
  have HO5 := Lib.hid (own_below HO4.out hb (Nat.le_refl _))
  have HB5 := Lib.hid (HB4.out.trans (hb.mono HB4.out.size))
  clear hb hiff HO4 HB4 HV1
  go_wp2_with fail
  with_reducible refine (end_any _ tn tn P w5 (ownSh_strs HO5.out) HPl.out (by simp only [maxLen]; omega)).mono ?_
  rintro e w6 ⟨r, rfl, hE, hb⟩
  have hrE := HEq.out r hE
  subst hrE
  have HB6 := Lib.hid (HB5.out.trans (hb.mono HB5.out.size))
  clear hE hb HO5 HB5 HVa HPt HPl
  have hEE : (r != r) = false := bne_self_eq_false r
  go_wp2_with fail
  go_loop [9, 10] (fun s i => ∃ k : Nat, k ≤ tn ∧ i = .int .i64 k ∧ s = .int .i64 (seqSt (probOf ts ws) k)) (fun _ i => tn - (intOf i).toNat)
  case atStart => exact ⟨0, by omega, rfl, by rw [HSq0.out]⟩
  case round =>
    obtain ⟨k, hk, rfl, rfl⟩ := hrel
    by_cases hlt : k < tn
    · obtain ⟨ad, z, rfl, hab, hcl, _⟩ := (HT0.out.now HB6.out).at_ hlt
      have hsec := HSec.out k hlt
      obtain ⟨hq1, hq2, hq3, hq4, hq5⟩ := HSq.out k hlt
      have HQ1 := Lib.hid hq1
      have c1 : w6.cell? ⟨(ad.add (k * 4)).block, (ad.add (k * 4)).off + 1, none⟩ = some (.int .i64 (ts.getD k tk0).sec) := hcl 1 _ rfl
      generalize seqSt (probOf ts ws) k = q at *
      generalize (ts.getD k tk0).sec = sk at *
      have hng : ¬ sk > r := by omega
      clear hcl hq1
      go_wp2_with fail
      go_round
      case rel => exact ⟨k + 1, by omega, by go_num, by rw [HQ1.out]⟩
      case measure => simp [intOf]; omega
    · obtain rfl : k = tn := by omega
      have hsm := HSum.out
      obtain ⟨hM1, hM2⟩ := hMb
      obtain ⟨M, hM⟩ : ∃ M, r * (bn : Int) = M := ⟨_, rfl⟩
      have hw1 : IntKind.i64.wrap (r * (bn : Int)) = r * (bn : Int) := IntWalk.i64_in _ (by omega)
      generalize seqSt (probOf ts ws) k = q at *
      have hq : decide (q ≤ r * (bn : Int)) = true := decide_eq_true hsm
      clear hM
      go_wp2_with fail
      with_reducible refine (HV2.out w6 HB6.out).mono ?_
      rintro e w7 ⟨b, rfl, hiff, hb⟩
      have HB7 := Lib.hid (HB6.out.trans (hb.mono HB6.out.size))
      clear hb
      cases b with
      | false =>
        clear hiff
        go_wp2_with fail
        go_ret
        exact ⟨rfl, HB7.out⟩
      | true =>
        have HVs := Lib.hid (hiff.1 rfl)
        clear hiff
        go_wp2_with fail
        with_reducible refine (HE2.out w7 HB7.out).mono ?_
        rintro e w8 ⟨r2, rfl, hE, hb⟩
        have hge := HFe.out r2 HVs.out hE
        have HB8 := Lib.hid (HB7.out.trans (hb.mono HB7.out.size))
        have hd : decide (r2 ≥ r) = true := decide_eq_true hge
        clear hE hb
        go_wp2_with fail
        go_ret
        exact ⟨rfl, HB8.out⟩


theorem own_topGrooming : ownKnob Try.prog.godebug = none := by kernel_rfl
theorem laidOut_topGrooming : laidOutB Try.prog = true := by kernel_rfl
set_option maxRecDepth 100000 in
theorem topGrooming_lifted (os : Os) (started : os.Started) (H : Type) (enc : TypeId × Value → H) :
    ReturnsInHanded {} Try.checked os 3 .any (Rows.topGroomingSpec.pre6 enc Try.prog Try.f3 Rows.topGroomingRow.domain false) (Rows.topGroomingSpec.post enc Try.prog Try.f3 false true false false) := by
  refine returnsInHanded_of_change (C := Try.checked) own_topGrooming started (by kernel_rfl) Try.func3
    (ChangeSpec.witness6 (enc := enc) (C := Try.checked) false ⟨#[], #[.slice none 0 0, .slice none 0 0, .slice none 0 0], []⟩ 8 (by kernel_rfl) (by kernel_rfl) (by kernel_rfl) (by kernel_rfl)) ?_
  intro W base args ds gs before hval0 hW hcnd _
  have hval : ∀ (j : Nat) t v, Try.f3.params[j]? = some t → args[j]? = some v → Value.okWide Try.prog W .any base t v := hval0
  have hW' := hW
  obtain ⟨p, q, hA0, hV, rfl, hfz, hnd⟩ := hW
  have hA : DataW.TrodAll enc Try.prog W 0 (fun _ => true) true Try.f3.params.toList args.toList ds p := hA0
  rw [Try.params3] at hA hval
  obtain ⟨v0, vs0, d0, ds0, p0, q0, hargs, rfl, rfl, h0, r0⟩ := trodAll_cons hA
  obtain ⟨v1, vs1, d1, ds1, p1, q1, rfl, rfl, rfl, h1, r1⟩ := trodAll_cons r0
  obtain ⟨v2, vs2, d2, ds2, p2, q2, rfl, rfl, rfl, h2, r2⟩ := trodAll_cons r1
  obtain ⟨rfl, rfl, rfl⟩ := trodAll_nil r2
  obtain rfl : args = #[v0, v1, v2] := by cases args; simp_all
  obtain ⟨rfl, rfl⟩ := trodVars_none hV
  obtain ⟨tA, tn, tc, ts, rfl, t1, t2, tr⟩ := open_tasks (hval 0 22 v0 rfl rfl) h0
  obtain ⟨bA, bn, bc, ws, rfl, b1, b2, br⟩ := open_bools (hval 1 23 v1 rfl rfl) h1
  obtain ⟨sA, sn, sc, sl, rfl, s1, s2, sL, sr, sw⟩ := open_shs (hval 2 24 v2 rfl rfl) h2
  refine (topGrooming_any W tA tn tc ts t1 t2 tr bA bn bc ws b1 b2 br sA sn sc sl s1 s2 sL sr sw).mono fun e W' ⟨he, hb⟩ => ?_
  subst he
  exact ⟨_, rfl, law_post laidOut_topGrooming (by kernel_rfl) rfl rfl Try.underlying4 hW' rfl hb⟩

theorem topGrooming_holds : Rows.TopGroomingSaid :=
  OpenClaim.holds_of_wide 3 Try.f3 rfl rfl rfl rfl rfl rfl rfl ⟨rfl, rfl, rfl, rfl, rfl⟩ rfl rfl rfl rfl rfl (by kernel_rfl) Try.func3 (by kernel_rfl)
    (of_decide_eq_true (by kernel_rfl)) (by unfold Func.isWrapper; rw [if_neg (by decide +kernel)]; exact ⟨rfl, rfl⟩)
    (fun os started H enc _ => topGrooming_lifted os started H enc)
#print axioms topGrooming_holds
end Go.Proofs.Ytbegehooefhiiaa
