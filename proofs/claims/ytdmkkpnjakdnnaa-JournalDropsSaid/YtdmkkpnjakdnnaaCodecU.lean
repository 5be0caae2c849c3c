/-
  Unframe of chapter 3, walked.
-/
import Derived.Test.YtdmkkpnjakdnnaaCodecF
namespace Go.Proofs.Ytdmkkpnjakdnnaa
open Go.RowKit

theorem or32_form (S x : Nat) (hS : S < 16777216) (hx : x < 256) : bits .or .u32 ((S : Int) * 256) (x : Int) = ((S * 256 + x : Nat) : Int) := by
  rw [show ((S : Int) * 256) = ((S * 256 : Nat) : Int) by omega, u32_or_nat _ _ (by omega) (by omega)]
  congr 1
  rw [Nat.mul_comm, show (256 : Nat) = 2 ^ 8 from rfl, ← Nat.two_pow_add_eq_or_of_lt (by omega)]
theorem de4_next (l : List UInt8) (k : Nat) (h : k < l.length) : de4 (l.take (k + 1)) = de4 (l.take k) * 256 + (l.getD k 0).toNat := by
  have e : l.getD k 0 = l[k] := by simp [List.getElem?_eq_getElem h]
  rw [List.take_succ_eq_append_getElem h, e]
  unfold de4
  rw [List.foldl_append]
  rfl
theorem de4_lt (l : List UInt8) : de4 l < 256 ^ l.length := by
  have key : ∀ (l : List UInt8) (s : Nat), l.foldl (fun s c => s * 256 + c.toNat) s < (s + 1) * 256 ^ l.length := by
    intro l
    induction l with
    | nil => intro s; simp
    | cons c t ih =>
      intro s
      have h := ih (s * 256 + c.toNat)
      have hc := UInt8.toNat_lt c
      rw [List.foldl_cons, List.length_cons, Nat.pow_succ]
      refine Nat.lt_of_lt_of_le h ?_
      rw [Nat.mul_comm (256 ^ t.length) 256, ← Nat.mul_assoc]
      exact Nat.mul_le_mul_right _ (by omega)
  have h := key l 0
  simpa [de4] using h

set_option maxRecDepth 100000 in
set_option maxHeartbeats 400000 in
theorem unf_any (A : Option Addr) (n c : Nat) (l body : List UInt8) (k e : Nat) (w : World) (hr : Bytes w w.heap.size A n l) (hn : n ≤ 10000000) (hc : n ≤ c) (hc2 : c ≤ maxLen) (hT : unfG l = (body, k, e)) :
    Calls Try.prog 50 #[.slice A n c] w fun e' w' => ∃ v, e' = .returned (.tuple #[v, .int .i64 (k : Int), .int .i64 (e : Int)]) ∧ OwnB w' w.heap.size v body ∧ Below w.heap.size w w' := by
  have HL := Lib.hid hr.blen
  have HR := Lib.hid hr
  unfold maxLen at hc2
  unfold unfG at hT
  rcases getN_cases l with ⟨N, K, hg, hk1, hk9, hkl, hN, hp1, hp2⟩ | ⟨E, hg, hE, hp1⟩
  · rw [hg] at hT
    have hkn : K ≤ n := by rw [← hr.blen]; exact hkl
    have HG := Lib.hid hg
    clear hr hg hkl hp1 hp2
    simp only [ne_eq, not_true_eq_false, if_false] at hT
    by_cases h1 : 65536 < N
    · rw [if_pos h1] at hT
      simp only [Prod.mk.injEq] at hT
      obtain ⟨rfl, rfl, rfl⟩ := hT
      go_enter Try.func50, Try.ntmps50
      go_wp2_with fail
      with_reducible refine (get_any N K 0 _ _ _ _ _ _ HR.out HG.out).mono ?_
      rintro e w' ⟨rfl, rfl⟩
      go_wp2_with fail
      go_ret3
      exact ⟨_, rfl, OwnB.nil _ _, Below.refl _ _⟩
    · rw [if_neg h1] at hT
      by_cases h2 : n < K + N + 4
      · rw [if_pos (by rw [HL.out]; exact h2)] at hT
        simp only [Prod.mk.injEq] at hT
        obtain ⟨rfl, rfl, rfl⟩ := hT
        go_enter Try.func50, Try.ntmps50
        go_wp2_with fail
        with_reducible refine (get_any N K 0 _ _ _ _ _ _ HR.out HG.out).mono ?_
        rintro e w' ⟨rfl, rfl⟩
        go_wp2_with fail
        go_ret3
        exact ⟨_, rfl, OwnB.nil _ _, Below.refl _ _⟩
      · rw [if_neg (by rw [HL.out]; exact h2)] at hT
        have HT := Lib.hid hT
        have HTail := Lib.hid (HR.out.bpart (k := K + N) (d := 4) (by omega))
        have HTL : Hid (((l.drop (K + N)).take 4).length = 4) := by show _ = _; rw [List.length_take, List.length_drop, HL.out]; omega
        have HBody := Lib.hid (HR.out.bpart (k := K) (d := N) (by omega))
        have HBL : Hid (((l.drop K).take N).length = N) := by show _ = _; rw [List.length_take, List.length_drop, HL.out]; omega
        clear hT
        generalize (l.drop (K + N)).take 4 = tl at *
        generalize (l.drop K).take N = bd at *
        go_enter Try.func50, Try.ntmps50
        go_wp2_with fail
        with_reducible refine (get_any N K 0 _ _ _ _ _ _ HR.out HG.out).mono ?_
        rintro e w' ⟨rfl, rfl⟩
        go_wp2_with fail
        go_loop [9, 37] (fun s i => ∃ j : Nat, j ≤ 4 ∧ i = .int .i64 j ∧ s = .int .u32 ((de4 (tl.take j) : Nat) : Int)) (fun _ i => 4 - (intOf i).toNat)
        case atStart => exact ⟨0, by omega, rfl, rfl⟩
        case round =>
          obtain ⟨j, hj, rfl, rfl⟩ := hrel
          by_cases hj4 : j < 4
          · obtain ⟨ad, had, _, hcx⟩ := HTail.out.byte hj4
            have HDN := Lib.hid (de4_next tl j (by rw [HTL.out]; exact hj4))
            have hS : de4 (tl.take j) < 16777216 := by
              have h := de4_lt (tl.take j)
              have h2 : (tl.take j).length ≤ 3 := by simp; omega
              have h3 := Nat.pow_le_pow_right (show 0 < 256 by omega) h2
              have h4 : (256 : Nat) ^ 3 = 16777216 := by decide
              omega
            have hx := UInt8.toNat_lt (tl.getD j 0)
            obtain ⟨S, hSe⟩ : ∃ S, de4 (tl.take j) = S := ⟨_, rfl⟩
            obtain ⟨x, hxe⟩ : ∃ x, (tl.getD j 0).toNat = x := ⟨_, rfl⟩
            rw [hSe] at hS HDN ⊢
            rw [hxe] at hx HDN hcx
            have ho := or32_form S x hS hx
            have HSe := Lib.hid hSe
            have HXe := Lib.hid hxe
            clear hSe hxe
            cases A with
            | none => cases had
            | some ad0 =>
              have had' : ad0.add (K + N) = ad := by simpa using had
              subst had'
              clear had
              go_wp2_with fail
              go_round
              case rel => exact ⟨j + 1, by omega, by go_num, by rw [HDN.out]; congr 1⟩
              case measure => simp [intOf]; omega
          · obtain rfl : j = 4 := by omega
            have HTt : Hid (tl.take 4 = tl) := hide (List.take_of_length_le (by rw [HTL.out]; omega))
            obtain ⟨s, hs⟩ : ∃ s, sumN bd = s := ⟨_, rfl⟩
            have hsl := sumN_lt bd
            have HS := Lib.hid hs
            by_cases hq : de4 tl = sumN bd
            · have hb : (((de4 (tl.take 4) : Nat) : Int) != (s : Int)) = false := by rw [bne_eq_false_iff_eq, HTt.out, hq, hs]
              have HT2 := Lib.hid HT.out
              rw [if_neg (by rw [hq]; simp)] at HT2
              clear hs hq hsl
              go_wp2_with fail
              with_reducible refine (sum_any _ _ _ _ s _ HBody.out (by omega) HS.out).mono ?_
              rintro e' w1 ⟨rfl, hb1⟩
              have HBody1 := Lib.hid (HBody.out.now hb1)
              have HB1 := Lib.hid hb1
              clear hb1
              go_wp2_with fail
              with_reducible refine (clone_b _ _ _ _ _ _ HBody1.out (by omega) (Nat.le_refl _)).mono ?_
              rintro e' w2 ⟨v, rfl, hown, hb2⟩
              have HO := Lib.hid (hown.mono HB1.out.size)
              have HB2 := Lib.hid (HB1.out.trans (hb2.mono HB1.out.size))
              clear hown hb2
              go_wp2_with fail
              go_ret3
              have hT := HT2.out
              simp only [Prod.mk.injEq] at hT
              obtain ⟨rfl, rfl, rfl⟩ := hT
              exact ⟨v, by simp, HO.out, HB2.out⟩
            · have hb : (((de4 (tl.take 4) : Nat) : Int) != (s : Int)) = true := by rw [bne_iff_ne, HTt.out]; omega
              have HT2 := Lib.hid HT.out
              rw [if_pos hq] at HT2
              clear hs hq hsl
              go_wp2_with fail
              with_reducible refine (sum_any _ _ _ _ s _ HBody.out (by omega) HS.out).mono ?_
              rintro e' w1 ⟨rfl, hb1⟩
              have HB1 := Lib.hid hb1
              clear hb1
              go_wp2_with fail
              go_ret3
              have hT := HT2.out
              simp only [Prod.mk.injEq] at hT
              obtain ⟨rfl, rfl, rfl⟩ := hT
              exact ⟨_, rfl, OwnB.nil _ _, HB1.out⟩
  · rw [hg] at hT
    have HG := Lib.hid hg
    have hb : ((E : Int) != 0) = true := by rw [bne_iff_ne]; omega
    clear hr hg hp1
    rw [if_pos hE] at hT
    simp only [Prod.mk.injEq] at hT
    obtain ⟨rfl, rfl, rfl⟩ := hT
    go_enter Try.func50, Try.ntmps50
    go_wp2_with fail
    with_reducible refine (get_any 0 0 E _ _ _ _ _ _ HR.out HG.out).mono ?_
    rintro e w' ⟨rfl, rfl⟩
    go_wp2_with fail
    go_ret3
    exact ⟨_, rfl, OwnB.nil _ _, Below.refl _ _⟩
end Go.Proofs.Ytdmkkpnjakdnnaa
