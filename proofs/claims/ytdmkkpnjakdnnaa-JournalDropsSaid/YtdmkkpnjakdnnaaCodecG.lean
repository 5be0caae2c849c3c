/-
  Get of chapter 3 and of its reference, walked.
-/
import Derived.Test.YtdmkkpnjakdnnaaRows
import Derived.Test.YtdmkkpnjakdnnaaBase
import Derived.Test.YtdmkkpnjakdnnaaCodecN
import Derived.Laws.Bits128
import Derived.Laws.BitsAllLaws
namespace Go.Proofs.Ytdmkkpnjakdnnaa
open Go.RowKit

theorem ret_b {a b : Bool} (h : a = b) : Ending.returned (.bool a) = .returned (.bool b) := by rw [h]
theorem ret_i {k : IntKind} {a b : Int} (h : a = b) : Ending.returned (.int k a) = .returned (.int k b) := by rw [h]
theorem ret_tri {a b c a' b' c' : Int} (h1 : a = a') (h2 : b = b') (h3 : c = c') : Ending.returned (.tuple #[.int .i64 a, .int .i64 b, .int .i64 c]) = .returned (.tuple #[.int .i64 a', .int .i64 b', .int .i64 c']) := by rw [h1, h2, h3]

theorem or_i64_nat (a b : Nat) (ha : a < 9223372036854775808) (hb : b < 9223372036854775808) : bits .or .i64 (a : Int) (b : Int) = ((a ||| b : Nat) : Int) := by
  have hlt : a ||| b < 9223372036854775808 := Nat.or_lt_two_pow (n := 63) ha hb
  have key : (BitVec.ofInt 64 (a : Int) ||| BitVec.ofInt 64 (b : Int)).toNat = a ||| b := by
    rw [BitVec.toNat_or, BitVec.toNat_ofInt, BitVec.toNat_ofInt]
    congr 1 <;> simp <;> omega
  show IntKind.i64.wrap ((BitVec.ofInt 64 (a : Int) ||| BitVec.ofInt 64 (b : Int)).toNat : Nat) = _
  rw [key, IntKind.wrap_i64]
  omega
theorem valN_next (l : List UInt8) (k : Nat) (h : k < l.length) : valN (l.take (k + 1)) = valN (l.take k) + 128 ^ k * ((l.getD k 0).toNat % 128) := by
  have e : l.getD k 0 = l[k] := by simp [List.getElem?_eq_getElem h]
  rw [List.take_succ_eq_append_getElem h, valN_append, List.length_take, Nat.min_eq_left (by omega), e]
  simp [valN]
theorem pow128_le (k : Nat) (h : k < 9) : 128 ^ k ≤ 72057594037927936 := Nat.pow_le_pow_right (show 0 < 128 by omega) (show k ≤ 8 by omega)
theorem and127 (x : Nat) (hx : x < 256) : bits .and .u8 (x : Int) 127 = ((x % 128 : Nat) : Int) := by
  have h127 : (BitVec.ofInt 8 127).toNat = 2 ^ 7 - 1 := by decide
  have key : (BitVec.ofInt 8 (x : Int) &&& BitVec.ofInt 8 127).toNat = x % 128 := by
    rw [BitVec.toNat_and, BitVec.toNat_ofInt, h127, Nat.and_two_pow_sub_one_eq_mod]
    omega
  show IntKind.u8.wrap ((BitVec.ofInt 8 (x : Int) &&& BitVec.ofInt 8 127).toNat : Nat) = _
  rw [key, IntKind.wrap_u8]
  omega
theorem get_form2 (V y P : Nat) (hV : V < P) (hy : y < 128) (hP : P ≤ 72057594037927936) (hor : P * y ||| V = P * y + V) :
    bits .or .i64 (V : Int) (wrap64 ((y : Int) * (P : Int))) = ((V + P * y : Nat) : Int) := by
  have hb : P * y ≤ P * 127 := Nat.mul_le_mul_left _ (by omega)
  have e3 : wrap64 ((y : Int) * (P : Int)) = ((P * y : Nat) : Int) := by
    rw [← Int.natCast_mul, Nat.mul_comm y]
    exact IntWalk.wrap64_in _ (by omega)
  rw [e3, or_i64_nat _ _ (by omega) (by omega), Nat.or_comm, hor, Nat.add_comm]
theorem get_form (V x k : Nat) (hV : V < 128 ^ k) (hx : x < 256) (hk : k < 9) :
    bits .or .i64 (V : Int) (wrap64 (wrap64 (bits .and .u8 (x : Int) 127) * 2 ^ (7 * k))) = ((V + 128 ^ k * (x % 128) : Nat) : Int) := by
  have hp := pow128_le k hk
  have e : (128 : Nat) ^ k = 2 ^ (7 * k) := by rw [Nat.pow_mul]
  have hm : x % 128 < 128 := Nat.mod_lt _ (by omega)
  have e1 : wrap64 ((x % 128 : Nat) : Int) = ((x % 128 : Nat) : Int) := IntWalk.wrap64_in _ (by omega)
  have e2 : (2 : Int) ^ (7 * k) = ((128 ^ k : Nat) : Int) := by rw [e]; simp
  have hor : 128 ^ k * (x % 128) ||| V = 128 ^ k * (x % 128) + V := by
    rw [e, ← Nat.two_pow_add_eq_or_of_lt (by rw [← e]; exact hV)]
  rw [and127 x hx, e1, e2]
  exact get_form2 V _ _ hV hm hp hor

set_option maxRecDepth 100000 in
set_option maxHeartbeats 400000 in
theorem get_any (N K E : Nat) (A : Option Addr) (n c B : Nat) (l : List UInt8) (w : World) (hr : Bytes w B A n l) (hT : getN l = (N, K, E)) :
    Calls Try.prog 51 #[.slice A n c] w fun e w' => e = .returned (.tuple #[.int .i64 (N : Int), .int .i64 (K : Int), .int .i64 (E : Int)]) ∧ w = w' := by
  have HL := Lib.hid hr.blen
  have HR := Lib.hid hr
  have HT := Lib.hid hT
  clear hr hT
  go_enter Try.func51, Try.ntmps51
  go_wp2_with fail
  go_loop [5, 7] (fun v i => ∃ k f : Nat, k + f = 9 ∧ i = .int .i64 k ∧ v = .int .i64 ((valN (l.take k) : Nat) : Int) ∧ getF l f k = (N, K, E)) (fun _ i => 9 - (intOf i).toNat)
  case atStart => exact ⟨0, 9, rfl, rfl, rfl, HT.out⟩
  case round =>
    obtain ⟨k, f, hkf, rfl, rfl, hg⟩ := hrel
    have hk9 : k ≤ 9 := by omega
    have HG := Lib.hid hg
    clear hg
    by_cases hk : k < 9
    · obtain ⟨f, rfl⟩ : ∃ g, f = g + 1 := ⟨f - 1, by omega⟩
      have HKF : Hid (k + 1 + f = 9) := hide (by omega)
      clear hkf
      by_cases hlt : k < n
      · obtain ⟨ad, rfl, _, hc⟩ := HR.out.byte hlt
        have HG2 : Hid (getF l (f + 1) k = if 128 ≤ (l.getD k 0).toNat then getF l f (k + 1) else if 0 < k ∧ (l.getD k 0).toNat = 0 then (0, 0, 3) else (valN (l.take (k + 1)), k + 1, 0)) := by
          show _ = _
          rw [getF, if_neg (by rw [HL.out]; omega)]
        have HV := Lib.hid (valN_next l k (by rw [HL.out]; exact hlt))
        have HVL : Hid (valN (l.take k) < 128 ^ k) := by
          have := valN_lt (l.take k)
          rw [List.length_take, HL.out, Nat.min_eq_left (by omega)] at this
          exact this
        have hx := UInt8.toNat_lt (l.getD k 0)
        generalize hxe : (l.getD k 0).toNat = x at *
        generalize hve : valN (l.take k) = V at *
        have HX := Lib.hid hxe
        have HVe := Lib.hid hve
        clear hxe hve
        have HF := Lib.hid (get_form V x k HVL.out hx hk)
        have HG3 := Lib.hid (HG.out.symm.trans HG2.out)
        by_cases h128 : 128 ≤ x
        · go_wp2_with fail
          go_round
          case rel => exact ⟨k + 1, f, HKF.out, by go_num, by rw [HF.out, HV.out], by rw [HG3.out, if_pos h128]⟩
          case measure => simp [intOf]; omega
        · by_cases h0 : x = 0
          · by_cases hk0 : 0 < k
            · have HZ : Hid ((N, K, E) = (0, 0, 3)) := by
                show _ = _
                rw [HG3.out, if_neg (by omega), if_pos ⟨hk0, h0⟩]
              subst h0
              go_wp2_with fail
              go_ret3
              have hz := HZ.out
              simp only [Prod.mk.injEq] at hz
              obtain ⟨rfl, rfl, rfl⟩ := hz
              exact ⟨rfl, rfl⟩
            · have HZ : Hid ((N, K, E) = (valN (l.take (k + 1)), k + 1, 0)) := by
                show _ = _
                rw [HG3.out, if_neg (by omega), if_neg (by omega)]
              subst h0
              go_wp2_with fail
              go_ret3
              have hz := HZ.out
              simp only [Prod.mk.injEq] at hz
              obtain ⟨rfl, rfl, rfl⟩ := hz
              exact ⟨ret_tri (by rw [HV.out, ← HF.out]; rfl) (by simp) rfl, rfl⟩
          · have h0' : ((x : Int) == 0) = false := beq_eq_false_iff_ne.2 (by omega)
            go_wp2_with fail
            go_ret3
            have hz := HG3.out
            rw [if_neg h128, if_neg (by omega)] at hz
            simp only [Prod.mk.injEq] at hz
            obtain ⟨rfl, rfl, rfl⟩ := hz
            exact ⟨ret_tri (by rw [HV.out, ← HF.out]) (by simp) rfl, rfl⟩
      · go_wp2_with fail
        go_ret3
        have h := HG.out
        rw [getF, if_pos (by rw [HL.out]; omega)] at h
        simp only [Prod.mk.injEq] at h
        obtain ⟨rfl, rfl, rfl⟩ := h
        exact ⟨rfl, rfl⟩
    · obtain rfl : k = 9 := by omega
      obtain rfl : f = 0 := by omega
      go_wp2_with fail
      go_ret3
      have h := HG.out
      simp only [getF, Prod.mk.injEq] at h
      obtain ⟨rfl, rfl, rfl⟩ := h
      exact ⟨rfl, rfl⟩

/-- the number that the bytes from index k to i - 1 give, the highest last -/
theorem valN_prev (l : List UInt8) (i k : Nat) (hk : k < i) (h : i ≤ l.length) : valN ((l.take i).drop k) = (l.getD k 0).toNat % 128 + 128 * valN ((l.take i).drop (k + 1)) := by
  rw [List.drop_eq_getElem_cons (by rw [List.length_take]; omega), valN]
  simp [List.getElem?_eq_getElem (show k < l.length by omega)]

set_option maxRecDepth 100000 in
set_option maxHeartbeats 400000 in
theorem rget_any (N K E : Nat) (A : Option Addr) (n c B : Nat) (l : List UInt8) (w : World) (hr : Bytes w B A n l) (hT : getN l = (N, K, E)) :
    Calls Try.prog 58 #[.slice A n c] w fun e w' => e = .returned (.tuple #[.int .i64 (N : Int), .int .i64 (K : Int), .int .i64 (E : Int)]) ∧ w = w' := by
  have HL := Lib.hid hr.blen
  have HR := Lib.hid hr
  have HT := Lib.hid hT
  clear hr hT
  go_enter Try.func58, Try.ntmps58
  go_wp2_with fail
  go_loop [5] (fun i => ∃ k f : Nat, k + f = 9 ∧ i = .int .i64 k ∧ getF l f k = (N, K, E)) (fun i => 9 - (intOf i).toNat)
  case atStart => exact ⟨0, 9, rfl, rfl, HT.out⟩
  case round =>
    obtain ⟨k, f, hkf, rfl, hg⟩ := hrel
    have hk9 : k ≤ 9 := by omega
    have HG := Lib.hid hg
    clear hg
    by_cases hk : k < 9
    · obtain ⟨f, rfl⟩ : ∃ g, f = g + 1 := ⟨f - 1, by omega⟩
      have HKF : Hid (k + 1 + f = 9) := hide (by omega)
      clear hkf
      by_cases hlt : k < n
      · obtain ⟨ad, rfl, _, hc⟩ := HR.out.byte hlt
        have HG2 : Hid (getF l (f + 1) k = if 128 ≤ (l.getD k 0).toNat then getF l f (k + 1) else if 0 < k ∧ (l.getD k 0).toNat = 0 then (0, 0, 3) else (valN (l.take (k + 1)), k + 1, 0)) := by
          show _ = _
          rw [getF, if_neg (by rw [HL.out]; omega)]
        have hx := UInt8.toNat_lt (l.getD k 0)
        generalize hxe : (l.getD k 0).toNat = x at *
        have HX := Lib.hid hxe
        clear hxe
        have HG3 := Lib.hid (HG.out.symm.trans HG2.out)
        by_cases h128 : 128 ≤ x
        · go_wp2_with fail
          go_round
          case rel => exact ⟨k + 1, f, HKF.out, by go_num, by rw [HG3.out, if_pos h128]⟩
          case measure => simp [intOf]; omega
        · by_cases h0 : 0 < k ∧ x = 0
          · obtain ⟨hk0, h0⟩ := h0
            have HZ : Hid ((N, K, E) = (0, 0, 3)) := by
              show _ = _
              rw [HG3.out, if_neg (by omega), if_pos ⟨hk0, h0⟩]
            subst h0
            go_wp2_with fail
            go_ret3
            have hz := HZ.out
            simp only [Prod.mk.injEq] at hz
            obtain ⟨rfl, rfl, rfl⟩ := hz
            exact ⟨rfl, rfl⟩
          · have HN : Hid (N = valN (l.take (k + 1)) ∧ K = k + 1 ∧ E = 0) := by
              have hz := HG3.out
              rw [if_neg h128, if_neg h0] at hz
              exact hide (by simpa using hz)
            have hways : ¬ 0 < k ∨ (0 < k ∧ ((x : Int) == 0) = false) := by
              rcases Nat.eq_zero_or_pos k with h | h
              · exact .inl (by omega)
              · exact .inr ⟨h, beq_eq_false_iff_ne.2 (by omega)⟩
            clear h0
            rcases hways with hk0 | ⟨hk0, hb0⟩
            all_goals
              go_wp2_with fail
              go_loop [6, 7] (fun v i => ∃ j : Nat, j ≤ k + 1 ∧ i = .int .i64 ((j : Int) - 1) ∧ v = .int .i64 ((valN ((l.take (k + 1)).drop j) : Nat) : Int)) (fun _ i => (intOf i + 1).toNat)
              case atStart => exact ⟨k + 1, by omega, by go_num, by rw [List.drop_of_length_le (by simp; try omega)]; rfl⟩
              case round =>
                obtain ⟨j, hj, hi, rfl⟩ := hrel
                by_cases hj0 : j = 0
                · subst hj0
                  have hi' : u7 = .int .i64 (-1) := hi
                  clear hi
                  subst hi'
                  go_wp2_with fail
                  go_ret3
                  obtain ⟨h1, h2, h3⟩ := HN.out
                  exact ⟨ret_tri (by rw [h1]) (by rw [h2]; omega) (by rw [h3]; rfl), rfl⟩
                · obtain ⟨m, rfl⟩ : ∃ m, j = m + 1 := ⟨j - 1, by omega⟩
                  have hi' : u7 = .int .i64 (m : Int) := by rw [hi]; congr 1; omega
                  clear hi
                  subst hi'
                  have hmn : m < n := by omega
                  obtain ⟨ad', had, _, hcm⟩ := HR.out.byte hmn
                  injection had with had
                  subst had
                  have HVP := Lib.hid (valN_prev l (k + 1) m (by omega) (by rw [HL.out]; omega))
                  have hVl : valN ((l.take (k + 1)).drop (m + 1)) < 72057594037927936 := by
                    have h := valN_lt ((l.take (k + 1)).drop (m + 1))
                    have hle : ((l.take (k + 1)).drop (m + 1)).length ≤ 8 := by simp; omega
                    have h2 := Nat.pow_le_pow_right (show 0 < 128 by omega) hle
                    have h3 : (128 : Nat) ^ 8 = 72057594037927936 := by decide
                    omega
                  obtain ⟨V, hVe⟩ : ∃ V, valN ((l.take (k + 1)).drop (m + 1)) = V := ⟨_, rfl⟩
                  rw [hVe] at hVl HVP ⊢
                  have HVe := Lib.hid hVe
                  clear hVe
                  have hy := UInt8.toNat_lt (l.getD m 0)
                  generalize (l.getD m 0).toNat = y at *
                  go_wp2_with fail
                  go_round
                  case rel =>
                    refine ⟨m, by omega, by go_num, ?_⟩
                    rw [HVP.out]
                    congr 1
                    omega
                  case measure => simp [intOf]
      · go_wp2_with fail
        go_ret3
        have h := HG.out
        rw [getF, if_pos (by rw [HL.out]; omega)] at h
        simp only [Prod.mk.injEq] at h
        obtain ⟨rfl, rfl, rfl⟩ := h
        exact ⟨rfl, rfl⟩
    · obtain rfl : k = 9 := by omega
      obtain rfl : f = 0 := by omega
      go_wp2_with fail
      go_ret3
      have h := HG.out
      simp only [getF, Prod.mk.injEq] at h
      obtain ⟨rfl, rfl, rfl⟩ := h
      exact ⟨rfl, rfl⟩
end Go.Proofs.Ytdmkkpnjakdnnaa
