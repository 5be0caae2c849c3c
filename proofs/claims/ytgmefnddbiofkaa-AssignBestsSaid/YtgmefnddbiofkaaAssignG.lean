/-
  Best of the reference of chapter 8, walked.
-/
import Derived.Test.YtgmefnddbiofkaaAssignF
namespace Go.Proofs.Ytgmefnddbiofkaa
open Go.RowKit

theorem contL_ints (N : Nat) (f : Nat → Int) : contL N f = ((List.range N).map f).map (Value.int .i64) := by simp [contL]
theorem range_getD (N : Nat) (f : Nat → Int) (j : Nat) (h : j < N) : ((List.range N).map f).getD j 0 = f j := by simp [h]
theorem intsN_snoc (q : List Nat) (k : Nat) : (intsN q).map (Value.int .i64) ++ [.int .i64 (k : Int)] = (intsN (q ++ [k])).map (Value.int .i64) := by simp [intsN]

set_option maxHeartbeats 400000 in
theorem rbest_err (A : Option Addr) (n c : Nat) (rows : List (List Int)) (w : World) (hm : Mat w w.heap.size A n rows) (hn : n ≤ 1000) (x : Int) (hx : errR rows = x) (hx0 : x ≠ 0) :
    Calls Try.prog 18 #[.slice A n c] w fun e w' => e = .returned (.tuple #[.slice none 0 0, .int .i64 0, .int .i64 x]) ∧ ∃ m, w' = w.drewN m := by
  have HM := Lib.hid hm
  have HR : Hid (∀ W, Mat W w.heap.size A n rows → Calls Try.prog 13 #[.slice A n c] W fun e w' => e = .returned (.int .i64 x) ∧ ∃ m, w' = W.drewN m) := fun W hW => by
    rw [← hx]; exact rright_any A n c _ rows W hW hn
  have hb : (x != 0) = true := by rw [bne_iff_ne]; exact hx0
  clear hm hx hx0
  go_enter Try.func18, Try.ntmps18
  go_wp2_with fail
  with_reducible refine (HR.out _ HM.out).mono ?_
  rintro e w' ⟨rfl, m, rfl⟩
  go_wp2_with fail
  go_ret3
  exact ⟨rfl, m, rfl⟩

set_option maxHeartbeats 1000000 in
theorem rbest_ok (A : Option Addr) (n c : Nat) (rows : List (List Int)) (w : World) (hm : Mat w w.heap.size A n rows) (hR : RightM rows) :
    Calls Try.prog 18 #[.slice A n c] w fun e w' => ∃ (p : List Nat) (l : Int) (vA : Option Addr) (vc : Nat), e = .returned (.tuple #[.slice vA p.length vc, .int .i64 l, .int .i64 0]) ∧
      IsBest (colsR rows) rows p l ∧ p.length ≤ vc ∧ vc ≤ maxLen ∧ Ints w' w'.heap.size vA p.length (intsN p) ∧ Below w.heap.size w w' := by
  have HM := Lib.hid hm
  have HL := Lib.hid hm.len
  have HR := Lib.hid hR
  have h8 : n ≤ 8 := by rw [← hm.len]; exact hR.few
  have hC8 := hR.cols_le.2
  have HRight : Hid (∀ W B, Mat W B A n rows → Calls Try.prog 13 #[.slice A n c] W fun e w' => e = .returned (.int .i64 0) ∧ ∃ m, w' = W.drewN m) := fun W B hW => by
    rw [← errR_of hR]; exact rright_any A n c B rows W hW (by omega)
  have HRest : Hid (∀ W, Mat W W.heap.size A n rows → Calls Try.prog 25 #[.slice A n c] W fun e w' => ∃ v, e = .returned v ∧ w'.ownsRow W.heap.size 3 1 v (2 ^ colsR rows) (contL (2 ^ colsR rows) (tabV (colsR rows) rows)) ∧ Below W.heap.size W w') := fun W hW => rest_any A n c 0 rows W hW hR
  have hG := fun q => greedy_isBest (colsR rows) rows q hR.nn hR.cols_le.1
  have hnC := hR.cols_le.1
  have hbd := tabV_bd hR
  obtain ⟨C, hC⟩ : ∃ C, colsR rows = C := ⟨_, rfl⟩
  rw [hC] at hC8 HRest hG hnC ⊢
  have HCol : Hid (∀ W B, Mat W B A n rows → Calls Try.prog 22 #[.slice A n c] W fun e w' => e = .returned (.int .i64 (C : Int)) ∧ W = w') := fun W B hW => by
    rw [← hC]; exact cols_any A n c B rows W hW (by omega)
  have HC := Lib.hid hC
  have HG := Lib.hid hG
  have HNC := Lib.hid hnC
  have HBD := Lib.hid hbd
  obtain ⟨N, hN⟩ : ∃ N, 2 ^ C = N := ⟨_, rfl⟩
  have hN256 : N ≤ 256 := by rw [← hN]; exact Nat.pow_le_pow_right (show 0 < 2 by omega) hC8
  have hN0 : 0 < N := by rw [← hN]; exact Nat.two_pow_pos C
  rw [hN] at HRest
  have HN := Lib.hid hN
  clear hm hR hC hN hG hnC hbd
  go_enter Try.func18, Try.ntmps18
  go_wp2_with fail
  with_reducible refine (HRight.out _ _ HM.out).mono ?_
  rintro e w1 ⟨rfl, m1, rfl⟩
  go_wp2_with fail
  with_reducible refine (HRest.out _ (HM.out.drewN m1)).mono ?_
  rintro e w3 ⟨v, rfl, hown, hb3⟩
  have HM3 : Hid (Mat w3 w3.heap.size A n rows) := hide ((HM.out.drewN m1).now hb3)
  have HB3 : Hid (Below w.heap.size w w3) := hide (show Below w.heap.size w w3 from (below_drewN (Below.refl _ _) m1).trans hb3)
  obtain ⟨tA, tc, rfl, htc1, htc2, htr⟩ := own_open hown
  rw [contL_ints] at htr
  have HT : Hid (Ints w3 w3.heap.size tA N ((List.range N).map (tabV C rows))) := htr
  unfold maxLen at htc2
  clear hown hb3 htr
  go_wp2_with fail
  go_loopw [7, 8, 9, 10] (fun v s i _ wr => ∃ (q : List Nat) (x : Nat), q.length ≤ n ∧ i = .int .i64 (q.length : Int) ∧ s = .int .i64 (x : Int) ∧ Pre C rows q x ∧ wr.ownsRow w3.heap.size 3 1 v q.length ((intsN q).map (Value.int .i64)) ∧ Below w3.heap.size w3 wr) (fun _ _ i _ _ => n - (intOf i).toNat)
  case atStart => exact ⟨[], 0, by simp, rfl, rfl, Pre.nil C rows, World.ownsRow_nil _ _ _ _, Below.refl _ _⟩
  case round =>
    obtain ⟨q, x, hq, rfl, rfl, hpre, hown, hbr⟩ := hrel
    obtain ⟨wo, rfl⟩ : ∃ wo : World, wo = wr := ⟨_, rfl⟩
    have HPre := Lib.hid hpre
    have hx := hpre.lt
    have hxN : x < N := by rw [← HN.out]; exact hx
    have HO := Lib.hid hown
    have HB := Lib.hid hbr
    have HMo := Lib.hid (HM3.out.now hbr)
    have HTo := Lib.hid (HT.out.now hbr)
    obtain ⟨vA, vc, rfl, hv1, hv2, hvr⟩ := own_open hown
    clear hpre hown hbr hx hvr
    by_cases hlt : q.length < n
    · have hltr : q.length < rows.length := by rw [HL.out]; exact hlt
      obtain ⟨k0, hk0, hf0⟩ := HPre.out.some_ hltr HR.out HNC.out
      have HF0 := Lib.hid hf0
      have HLT := Lib.hid hltr
      clear hf0 hltr
      generalize hi : q.length = i at *
      have HI := Lib.hid hi
      clear hi
      go_wp2_with fail
      go_loopw [7, 8, 10] (fun v s j wr => ∃ (k m : Nat), k ≤ k0 ∧ v = .slice vA i vc ∧ s = .int .i64 (x : Int) ∧ j = .int .i64 (k : Int) ∧ (∀ j, j < k → ¬ Fits C rows q x j) ∧ wr = wo.drewN m) (fun _ _ j _ => C - (intOf j).toNat)
      case atStart => exact ⟨0, 0, by omega, rfl, rfl, rfl, by simp, rfl⟩
      case round =>
        obtain ⟨k, m, hk, rfl, rfl, rfl, hno, rfl⟩ := hrel
        have HNo := Lib.hid hno
        clear hno
        have hkC : k < C := by omega
        obtain ⟨ad, a1, rc, rfl, hadb, hc, hrl, hrc, hri⟩ := HMo.out.row (k := i) hlt
        unfold maxLen at hrc
        have hrm : rows.getD i [] ∈ rows := by simp [List.getElem?_eq_getElem (show i < rows.length by rw [HL.out]; exact hlt)]
        have hrlen : (rows.getD i []).length = C := by rw [← HC.out]; exact (HR.out.same _ hrm).1
        obtain ⟨adr, rfl, _, hcx⟩ := hri.int (k := k) (by omega)
        have hxb : 0 ≤ (rows.getD i []).getD k 0 ∧ (rows.getD i []).getD k 0 ≤ 1000000 := ⟨HR.out.nn _ hrm _, HR.out.le _ hrm _⟩
        rw [hrlen] at hc hrl
        obtain ⟨adt, rfl, _, hcz⟩ := HTo.out.int (k := x) hxN
        rw [range_getD _ _ _ hxN] at hcz
        have hbit := bit_bool x k
        have hyb := HBD.out C (x + 2 ^ k)
        have hzb := HBD.out C x
        have hpw : (2 : Int) ^ k = ((2 ^ k : Nat) : Int) := by simp
        have hp256 : 2 ^ k ≤ 256 := Nat.le_trans (Nat.pow_le_pow_right (show 0 < 2 by omega) (show k ≤ 8 by omega)) (by decide)
        have hp0 : 0 < 2 ^ k := Nat.two_pow_pos k
        have HPW := Lib.hid hpw
        clear hpw
        by_cases hb : x / 2 ^ k % 2 = 0
        · have hsk : x + 2 ^ k < N := by rw [← HN.out]; exact bit_bound C x k HPre.out.lt hkC hb
          obtain ⟨adt', hadt, _, hcy⟩ := HTo.out.int (k := x + 2 ^ k) hsk
          injection hadt with hadt
          subst hadt
          rw [range_getD _ _ _ hsk] at hcy
          have hbit1 : (((x : Int) / 2 ^ k).tmod 2 == 0) = true := by rw [hbit]; simpa using hb
          have HFit : Hid (Fits C rows q x k ↔ (rows.getD i []).getD k 0 + tabV C rows (x + 2 ^ k) = tabV C rows x) := by
            rw [← HI.out]
            exact ⟨fun h => h.2, fun h => ⟨hb, h⟩⟩
          have HPn : Hid (Fits C rows q x k → Pre C rows (q ++ [k]) (x + 2 ^ k)) := fun h => HPre.out.step (by rw [HI.out, HL.out]; exact hlt) hkC h HNo.out
          have HSN := Lib.hid (intsN_snoc q k)
          rw [HPW.out] at hbit1
          have HBIT := Lib.hid hbit1
          generalize (rows.getD i []).getD k 0 = a at *
          generalize tabV C rows (x + 2 ^ k) = y at *
          generalize tabV C rows x = z at *
          generalize 2 ^ k = u at *
          clear hbit hri hrm hrlen hb hbit1
          have e2 : (0 : Int) ≤ (x : Int) + (u : Int) := by omega
          have e3 : ((x : Int) + (u : Int)).toNat = x + u := by omega
          have e6 : (x : Int) + (u : Int) < (N : Int) := by omega
          have f1 : -9223372036854775808 ≤ (x : Int) + (u : Int) ∧ (x : Int) + (u : Int) ≤ 9223372036854775807 := by omega
          have f2 : -9223372036854775808 ≤ a + y ∧ a + y ≤ 9223372036854775807 := by omega
          have f3 : -9223372036854775808 ≤ (u : Int) ∧ (u : Int) ≤ 9223372036854775807 := by omega
          have E1 := Lib.hid (IntWalk.i64_in _ f1)
          have E4 := Lib.hid (IntWalk.i64_in _ f2)
          have E5 := Lib.hid (IntWalk.i64_in _ f3)
          have E8 := Lib.hid (IntWalk.u64_in (k : Int) (by omega))
          have E7 : Hid (wrap64 (u : Int) = (u : Int)) := hide (IntWalk.wrap64_in _ f3)
          clear f1 f2 f3
          by_cases he : a + y = z
          · have hq' : ((a + y) == z) = true := beq_iff_eq.2 he
            have HE := Lib.hid (HPn.out (HFit.out.2 he))
            clear he
            go_wp2_with fail
            with_reducible refine (HCol.out _ _ (HMo.out.drewN m)).mono ?_
            rintro e w' ⟨rfl, rfl⟩
            go_wp2_with fail
            have hpw := HPW.out
            have hbit1 := HBIT.out
            have e1 := E1.out
            have e4 := E4.out
            have e5 := E5.out
            have e7 := E7.out
            have e8 := E8.out
            go_quiet (fail)
            clear e1 e4 e5 e7 e8
            have HO' : Hid (∀ m, (wo.drewN m).ownsRow w3.heap.size 3 1 (.slice vA i vc) i ((intsN q).map (Value.int .i64))) := fun _ => HO.out
            have HB' : Hid (∀ m, Below w3.heap.size w3 (wo.drewN m)) := fun m => below_drewN HB.out m
            go_wp2_with
              (at_builtin
               refine wpList_app _ ei_int rfl (.tmp 59) (.tmp 61) rfl w3.heap.size (.slice vA i vc) i ((intsN q).map (Value.int .i64)) rfl ((HO'.out _).alloc _) (wo.heap.size + 1) (some ⟨wo.heap.size, 0, none⟩) 1 1 [.int .i64 (k : Int)] rfl (Reads.new _ 3 #[.int .i64 (k : Int)] 1 1 rfl) (by simp [Value.oneCell']) (by simp only [maxLen]; omega) (by omega) (by have := HB.out.size; simp; omega) ?_
               intro v4 w4 hown4 hg4 hbw4 hat4
               have HO4 : Hid (w4.ownsRow w3.heap.size 3 1 v4 (i + 1) ((intsN (q ++ [k])).map (Value.int .i64))) := by
                 rw [HSN.out] at hown4
                 exact hown4
               have HB4 : Hid (Below w3.heap.size w3 w4) := (((HB'.out _).alloc ((HB'.out _).size) _).trans hbw4)
               clear hown4 hg4 hbw4 hat4)
            go_roundw
            case rel => exact ⟨q ++ [k], x + u, by simp [HI.out]; omega, by simp [HI.out], by go_num, HE.out, by rw [List.length_append, HI.out]; exact HO4.out, HB4.out⟩
            case measure => simp [intOf]; omega
          · have hq' : ((a + y) == z) = false := beq_eq_false_iff_ne.2 he
            have HE : Hid (¬ Fits C rows q x k) := fun h => he (HFit.out.1 h)
            clear he
            have HK : Hid (k < k0) := by
              rcases Nat.lt_or_ge k k0 with h | h
              · exact hide h
              · obtain rfl : k0 = k := by omega
                exact (HE.out HF0.out).elim
            go_wp2_with fail
            with_reducible refine (HCol.out _ _ (HMo.out.drewN m)).mono ?_
            rintro e w' ⟨rfl, rfl⟩
            go_wp2_with fail
            have hpw := HPW.out
            have hbit1 := HBIT.out
            have e1 := E1.out
            have e4 := E4.out
            have e5 := E5.out
            have e7 := E7.out
            have e8 := E8.out
            go_quiet (fail)
            clear e1 e4 e5 e7 e8
            go_wp2_with fail
            go_roundw
            case rel =>
              refine ⟨k + 1, _, HK.out, rfl, rfl, by go_num, ?_, by first | rfl | exact World.drewN_drewN _ _ _⟩
              intro j hj
              rcases Nat.lt_succ_iff_lt_or_eq.1 hj with h | rfl
              · exact HNo.out j h
              · exact HE.out
            case measure => simp [intOf]; omega
        · have hbit0 : (((x : Int) / 2 ^ k).tmod 2 == 0) = false := by rw [hbit]; simpa using hb
          have HE : Hid (¬ Fits C rows q x k) := fun h => hb h.1
          have HK : Hid (k < k0) := by
            rcases Nat.lt_or_ge k k0 with h | h
            · exact hide h
            · obtain rfl : k0 = k := by omega
              exact (HE.out HF0.out).elim
          have E8 := Lib.hid (IntWalk.u64_in (k : Int) (by omega))
          clear hbit hri hrm hrlen hb
          go_wp2_with fail
          with_reducible refine (HCol.out _ _ (HMo.out.drewN m)).mono ?_
          rintro e w' ⟨rfl, rfl⟩
          go_wp2_with fail
          have e8 := E8.out
          go_quiet (fail)
          clear e8
          go_wp2_with fail
          go_roundw
          case rel =>
            refine ⟨k + 1, _, HK.out, rfl, rfl, by go_num, ?_, by first | rfl | exact World.drewN_drewN _ _ _⟩
            intro j hj
            rcases Nat.lt_succ_iff_lt_or_eq.1 hj with h | rfl
            · exact HNo.out j h
            · exact HE.out
          case measure => simp [intOf]; omega
    · have hqn : q.length = n := by omega
      have hbest := HG.out q (HPre.out.done (by rw [hqn, HL.out]))
      have HBest := Lib.hid hbest
      obtain ⟨adt, rfl, _, hcz⟩ := HTo.out.int (k := 0) hN0
      rw [range_getD _ _ _ hN0, Pre.zero] at hcz
      have hcz' : wo.cell? adt = some (.int .i64 (minR C rows [])) := by simpa [Addr.add] using hcz
      have HVr := Lib.hid (own_open HO.out)
      have HBB : Hid (Below w.heap.size w wo) := HB3.out.trans (HB.out.mono HB3.out.size)
      clear hbest
      go_wp2_with fail
      go_quiet (fail)
      go_wp2_with fail
      go_ret3
      obtain ⟨A2, c2, h1, h2, h3, h4⟩ := HVr.out
      injection h1 with h1 h5 h6
      subst h1
      subst h6
      exact ⟨q, _, vA, vc, rfl, HBest.out, h2, h3, Reads.drewN h4 _, below_drewN HBB.out _⟩
end Go.Proofs.Ytgmefnddbiofkaa
