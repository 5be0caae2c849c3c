/-
  AssignBest answers true for every input. Its conditions: none.
-/
import Derived.Test.YtgmefnddbiofkaaAssignA
import Derived.Test.YtgmefnddbiofkaaRowMat
namespace Go.Proofs.Ytgmefnddbiofkaa
open Go.ChangeShapes Go.WideShapes Go.ChangeAt Go.RowKit

/-- the three ways of the last test -/
theorem best_ways {m : List (List Int)} {p : List Nat} {n : Int} (h : IsBest (colsR m) m p n) (o : List Int) :
    (∃ k, totP m o = (k, false)) ∨ (∃ k, totP m o = (k, true) ∧ n < k) ∨ (totP m o = (n, true) ∧ befB o (intsN p) = false) := by
  rcases hT : totP m o with ⟨k, b⟩
  cases b with
  | false => exact .inl ⟨k, rfl⟩
  | true =>
    obtain ⟨q, rfl, hq, hc⟩ := totP_true hT
    have hle := h.least q hq
    rw [hc] at hle
    rcases Int.lt_or_eq_of_le hle with hlt | heq
    · exact .inr (.inl ⟨k, rfl, hlt⟩)
    · subst heq
      refine .inr (.inr ⟨rfl, ?_⟩)
      rcases hb : befB (intsN q) (intsN p) with _ | _
      · rfl
      · exact (h.first q hq hc ((befB_lexL q p).1 hb)).elim

set_option maxHeartbeats 400000 in
theorem assignBest_any (w : World) (mA : Option Addr) (mn mc : Nat) (m : List (List Int)) (m1 : mn ≤ mc) (m2 : mc ≤ maxLen) (mr : Mat w w.heap.size mA mn m) (mw : ∀ r ∈ m, ∀ y ∈ r, (Lit.int .i64 y).wf = true) (oA : Option Addr) (on oc : Nat) (o : List Int) (o1 : on ≤ oc) (o2 : oc ≤ maxLen) (or : Reads w w.heap.size 1 oA on (o.map (Value.int .i64))) (ow : ∀ z ∈ o, (Lit.int .i64 z).wf = true) :
    Calls Try.prog 6 #[.slice mA mn mc, .slice oA on oc] w fun e w' => e = .returned (.bool true) ∧ Below w.heap.size w w' := by
  have hml : mn ≤ maxLen := Nat.le_trans m1 m2
  unfold maxLen at o2
  have HM := Lib.hid mr
  have HP := Lib.hid or
  clear mr mw m2 or ow
  obtain ⟨s, hs⟩ : ∃ s, rightB m = s := ⟨_, rfl⟩
  cases s with
  | true =>
    by_cases hp : on ≤ 100
    · have HRM := Lib.hid (rightB_right hs)
      have HS := Lib.hid hs
      clear hs
      go_enter Try.func6, Try.ntmps6
      go_wp2_with fail
      with_reducible refine (alive_any _).mono ?_
      rintro e w1 ⟨rfl, hb1⟩
      have HM1 := Lib.hid (HM.out.now hb1)
      have HP1 := Lib.hid (HP.out.now hb1)
      go_wp2_with fail
      with_reducible refine (right_b true _ _ _ _ _ _ HM1.out hml HS.out).mono ?_
      rintro e w2 ⟨rfl, hd2⟩
      have hb2 : Below w1.heap.size w1 w2 := by obtain ⟨k, rfl⟩ := hd2; exact below_drewN (Below.refl _ _) k
      have HM2 := Lib.hid (HM1.out.now hb2)
      have HP2 := Lib.hid (HP1.out.now hb2)
      have hbb2 := hb1.trans (hb2.mono hb1.size)
      clear hd2 hb2
      go_wp2_with fail
      with_reducible refine (best_ok _ _ _ _ _ HM2.out HRM.out).mono ?_
      rintro e w3 ⟨p, n, vA, vc, rfl, hbest, hv1, hv2, hvi, hb3⟩
      have hpl : p.length ≤ 8 := by
        have := ((mem_allA _ _ _ _).1 hbest.mem).1
        have := HRM.out.few
        omega
      have HM3 := Lib.hid (HM2.out.now hb3)
      have HP3 := Lib.hid (HP2.out.now hb3)
      have hbb3 := hbb2.trans (hb3.mono hbb2.size)
      have HV := Lib.hid hvi
      have HT1 := Lib.hid (totP_best hbest)
      have HW := Lib.hid (best_ways hbest o)
      clear hbest hvi hb3 hbb2
      unfold maxLen at hv2
      go_wp2_with fail
      refine (total_any _ _ _ _ m _ _ _ (intsN p) _ HM3.out HRM.out HV.out hv1 (by omega)).mono ?_
      rintro e w4 ⟨rfl, rfl⟩
      rw [HT1.out]
      go_wp2_with fail
      refine (total_any _ _ _ _ m _ _ _ o _ HM3.out HRM.out HP3.out o1 (by omega)).mono ?_
      rintro e w5 ⟨rfl, rfl⟩
      rcases HW.out with ⟨k, h1⟩ | ⟨k, h1, h2⟩ | ⟨h1, h2⟩
      · rw [h1]
        have H1 := Lib.hid h1
        clear h1
        go_wp2_with fail
        go_ret
        exact ⟨rfl, hbb3⟩
      · rw [h1]
        have H1 := Lib.hid h1
        clear h1
        go_wp2_with fail
        go_ret
        exact ⟨rfl, hbb3⟩
      · rw [h1]
        have H1 := Lib.hid h1
        have H2 := Lib.hid h2
        clear h1 h2
        have hnn : (n == n) = true := by simp
        go_wp2_with fail
        with_reducible refine (before_b false _ _ _ _ _ _ _ _ _ _ _ HP3.out HV.out (by unfold maxLen; omega) (by unfold maxLen; omega) H2.out).mono ?_
        rintro e w6 ⟨rfl, j, rfl⟩
        go_wp2_with fail
        go_ret
        exact ⟨rfl, below_drewN hbb3 _⟩
    · have HS := Lib.hid hs
      clear hs
      go_enter Try.func6, Try.ntmps6
      go_wp2_with fail
      with_reducible refine (alive_any _).mono ?_
      rintro e w1 ⟨rfl, hb1⟩
      have HM1 := Lib.hid (HM.out.now hb1)
      go_wp2_with fail
      with_reducible refine (right_b true _ _ _ _ _ _ HM1.out hml HS.out).mono ?_
      rintro e w2 ⟨rfl, k, rfl⟩
      go_wp2_with fail
      go_ret
      exact ⟨rfl, below_drewN hb1 _⟩
  | false =>
    have HS := Lib.hid hs
    clear hs
    go_enter Try.func6, Try.ntmps6
    go_wp2_with fail
    with_reducible refine (alive_any _).mono ?_
    rintro e w1 ⟨rfl, hb1⟩
    have HM1 := Lib.hid (HM.out.now hb1)
    go_wp2_with fail
    with_reducible refine (right_b false _ _ _ _ _ _ HM1.out hml HS.out).mono ?_
    rintro e w2 ⟨rfl, k, rfl⟩
    go_wp2_with fail
    go_ret
    exact ⟨rfl, below_drewN hb1 _⟩


theorem own_assignBest : ownKnob Try.prog.godebug = none := by kernel_rfl
theorem laidOut_assignBest : laidOutB Try.prog = true := by kernel_rfl
set_option maxRecDepth 100000 in
theorem assignBest_lifted (os : Os) (started : os.Started) (H : Type) (enc : TypeId × Value → H) :
    ReturnsInHanded {} Try.checked os 6 .any (Rows.assignBestSpec.pre6 enc Try.prog Try.f6 Rows.assignBestRow.domain false) (Rows.assignBestSpec.post enc Try.prog Try.f6 false true false false) := by
  refine returnsInHanded_of_change (C := Try.checked) own_assignBest started (by kernel_rfl) Try.func6
    (ChangeSpec.witness6 (enc := enc) (C := Try.checked) false ⟨#[], #[.slice none 0 0, .slice none 0 0], []⟩ 8 (by kernel_rfl) (by kernel_rfl) (by kernel_rfl) (by kernel_rfl)) ?_
  intro W base args ds gs before hval0 hW hcnd _
  have hval : ∀ (j : Nat) t v, Try.f6.params[j]? = some t → args[j]? = some v → Value.okWide Try.prog W .any base t v := hval0
  have hW' := hW
  obtain ⟨p, q, hA0, hV, rfl, hfz, hnd⟩ := hW
  have hA : DataW.TrodAll enc Try.prog W 0 (fun _ => true) true Try.f6.params.toList args.toList ds p := hA0
  rw [Try.params6] at hA hval
  obtain ⟨v0, vs0, d0, ds0, p0, q0, hargs, rfl, rfl, h0, r0⟩ := trodAll_cons hA
  obtain ⟨v1, vs1, d1, ds1, p1, q1, rfl, rfl, rfl, h1, r1⟩ := trodAll_cons r0
  obtain ⟨rfl, rfl, rfl⟩ := trodAll_nil r1
  obtain rfl : args = #[v0, v1] := by cases args; simp_all
  obtain ⟨rfl, rfl⟩ := trodVars_none hV
  obtain ⟨mA, mn, mc, m, rfl, m1, m2, mr, mw⟩ := open_mat Try.underlying22 Try.underlying27 Try.underlying3 (by kernel_rfl) (by kernel_rfl) (hval 0 22 v0 rfl rfl) h0
  obtain ⟨oA, on, oc, o, rfl, o1, o2, or, ow⟩ := open_ints_any Try.underlying27 Try.underlying3 (by kernel_rfl) (hval 1 27 v1 rfl rfl) h1
  refine (assignBest_any W mA mn mc m m1 m2 mr mw oA on oc o o1 o2 or ow).mono fun e W' ⟨he, hb⟩ => ?_
  subst he
  exact ⟨_, rfl, law_post laidOut_assignBest (by kernel_rfl) rfl rfl Try.underlying4 hW' rfl hb⟩

theorem assignBest_holds : Rows.AssignBestSaid :=
  OpenClaim.holds_of_wide 6 Try.f6 rfl rfl rfl rfl rfl rfl rfl ⟨rfl, rfl, rfl, rfl, rfl⟩ rfl rfl rfl rfl rfl (by kernel_rfl) Try.func6 (by kernel_rfl)
    (of_decide_eq_true (by kernel_rfl)) (by unfold Func.isWrapper; rw [if_neg (by decide +kernel)]; exact ⟨rfl, rfl⟩)
    (fun os started H enc _ => assignBest_lifted os started H enc)
#print axioms assignBest_holds
end Go.Proofs.Ytgmefnddbiofkaa
