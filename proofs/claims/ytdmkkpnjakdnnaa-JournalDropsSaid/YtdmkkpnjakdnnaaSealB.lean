/-
  Mix, blocks and tags of chapter 4, walked: each returns what the plain law's functions say and leaves the world as it was.
-/
import Derived.Test.YtdmkkpnjakdnnaaRows
import Derived.Test.YtdmkkpnjakdnnaaBase
import Derived.Test.YtdmkkpnjakdnnaaSealN
namespace Go.Proofs.Ytdmkkpnjakdnnaa
open Go.RowKit

theorem ret_int {k : IntKind} {a b : Int} (h : a = b) : Ending.returned (.int k a) = .returned (.int k b) := by rw [h]
theorem ret_bool {a b : Bool} (h : a = b) : Ending.returned (.bool a) = .returned (.bool b) := by rw [h]

theorem sh_i (X d : Nat) (D : Int) (hd : (d : Int) = D) (hX : X < 18446744073709551616) : bits .xor .u64 (X : Int) ((X : Int) / D) = ((shN d X : Nat) : Int) := by
  subst hd
  exact xorShift_u64 X d hX
theorem ml_i (X c : Nat) (C : Int) (hc : (c : Int) = C) : IntKind.u64.wrap ((X : Int) * C) = ((mlN c X : Nat) : Int) := by
  subst hc
  rw [IntKind.wrap_u64, mlN]
  omega
theorem mix_form (X : Nat) (hX : X < 18446744073709551616) :
    bits .xor .u64 (IntKind.u64.wrap (bits .xor .u64 (IntKind.u64.wrap (bits .xor .u64 (X : Int) ((X : Int) / 1073741824) * 13787848793156543929)) (IntKind.u64.wrap (bits .xor .u64 (X : Int) ((X : Int) / 1073741824) * 13787848793156543929) / 134217728) * 10723151780598845931))
      (IntKind.u64.wrap (bits .xor .u64 (IntKind.u64.wrap (bits .xor .u64 (X : Int) ((X : Int) / 1073741824) * 13787848793156543929)) (IntKind.u64.wrap (bits .xor .u64 (X : Int) ((X : Int) / 1073741824) * 13787848793156543929) / 134217728) * 10723151780598845931) / 2147483648)
      = ((mixN X : Nat) : Int) := by
  rw [sh_i X 1073741824 1073741824 rfl hX, ml_i _ 13787848793156543929 13787848793156543929 rfl, sh_i _ 134217728 134217728 rfl (mlN_lt _ _), ml_i _ 10723151780598845931 10723151780598845931 rfl, sh_i _ 2147483648 2147483648 rfl (mlN_lt _ _)]
  rfl

set_option maxHeartbeats 400000 in
theorem mix_any (x : Int) (h0 : 0 ≤ x) (h1 : x < 18446744073709551616) (w : World) :
    Calls Try.prog 43 #[.int .u64 x] w fun e w' => e = .returned (.int .u64 ((mixN x.toNat : Nat) : Int)) ∧ w = w' := by
  obtain ⟨X, rfl⟩ := Int.eq_ofNat_of_zero_le h0
  have hX : X < 18446744073709551616 := by omega
  clear h0 h1
  go_enter Try.func43, Try.ntmps43
  go_wp2
  go_ret
  exact ⟨ret_int (mix_form X hX), rfl⟩

set_option maxHeartbeats 400000 in
theorem rmix_any (x : Int) (h0 : 0 ≤ x) (h1 : x < 18446744073709551616) (w : World) :
    Calls Try.prog 56 #[.int .u64 x] w fun e w' => e = .returned (.int .u64 ((mixN x.toNat : Nat) : Int)) ∧ w = w' := by
  obtain ⟨X, rfl⟩ := Int.eq_ofNat_of_zero_le h0
  have hX : X < 18446744073709551616 := by omega
  clear h0 h1
  go_enter Try.func56, Try.ntmps56
  go_wp2
  go_ret
  exact ⟨ret_int (mix_form X hX), rfl⟩

theorem take_next (l : List UInt8) (k : Nat) (h : k < l.length) : l.take (k + 1) = l.take k ++ [l.getD k 0] := by
  rw [List.take_succ_eq_append_getElem h]
  simp [List.getD, List.getElem?_eq_getElem h]
theorem leN_next (l : List UInt8) (k : Nat) (h : k < l.length) : leN (l.take (k + 1)) = leN (l.take k) + 256 ^ k * (l.getD k 0).toNat := by
  rw [take_next l k h, leN_append, List.length_take, Nat.min_eq_left (by omega)]
  simp [leN]
theorem pow256_le (k : Nat) (h : k < 8) : 256 ^ k ≤ 72057594037927936 := Nat.pow_le_pow_right (show 0 < 256 by omega) (show k ≤ 7 by omega)
theorem or_form (L c k : Nat) (hL : L < 256 ^ k) (hc : c < 256) (hk : k < 8) :
    bits .or .u64 (L : Int) (IntKind.u64.wrap (IntKind.u64.wrap (c : Int) * 2 ^ (8 * k))) = ((L + 256 ^ k * c : Nat) : Int) := by
  have hp := pow256_le k hk
  have e : (256 : Nat) ^ k = 2 ^ (8 * k) := by rw [Nat.pow_mul]
  have e1 : IntKind.u64.wrap (c : Int) = (c : Int) := by rw [IntKind.wrap_u64]; omega
  have e2 : (2 : Int) ^ (8 * k) = ((256 ^ k : Nat) : Int) := by rw [e]; simp
  have hm : 256 ^ k * c ≤ 256 ^ k * 255 := Nat.mul_le_mul_left _ (by omega)
  have e3 : IntKind.u64.wrap ((c : Int) * ((256 ^ k : Nat) : Int)) = ((256 ^ k * c : Nat) : Int) := by
    rw [IntKind.wrap_u64, ← Int.natCast_mul, Nat.mul_comm c]
    omega
  rw [e1, e2, e3, bits_or_u64_nat _ _ (by omega) (by omega)]
  rw [e, Nat.or_comm, ← Nat.two_pow_add_eq_or_of_lt (by omega), Nat.add_comm]

set_option maxHeartbeats 400000 in
theorem block_any (A : Option Addr) (n c B : Nat) (l : List UInt8) (w : World) (hr : Bytes w B A n l) (hn : n ≤ 8) :
    Calls Try.prog 44 #[.slice A n c] w fun e w' => e = .returned (.int .u64 ((leN l : Nat) : Int)) ∧ w = w' := by
  have hl := hr.blen
  have HL := Lib.hid hl
  clear hl
  have HR := Lib.hid hr
  clear hr
  go_enter Try.func44, Try.ntmps44
  go_wp2
  go_loop [3, 8] (fun t i => ∃ k : Nat, k ≤ n ∧ i = .int .i64 k ∧ t = .int .u64 ((leN (l.take k) : Nat) : Int)) (fun _ i => n - (intOf i).toNat)
  case atStart => exact ⟨0, Nat.zero_le _, rfl, rfl⟩
  case round =>
    obtain ⟨k, hk, rfl, rfl⟩ := hrel
    by_cases hlt : k < n
    · obtain ⟨ad, rfl, _, hc⟩ := HR.out.byte hlt
      go_wp2
      go_round
      case rel =>
        refine ⟨k + 1, by omega, by go_num, ?_⟩
        rw [leN_next l k (by rw [HL.out]; exact hlt), ← or_form _ _ k (Nat.lt_of_lt_of_le (leN_lt _) (Nat.pow_le_pow_right (by omega) (by simp; omega))) (UInt8.toNat_lt _) (by omega)]
        simp
      case measure => simp [intOf]; omega
    · go_wp2
      go_ret
      exact ⟨ret_int (by rw [List.take_of_length_le (by rw [HL.out]; omega)]), rfl⟩

def unitN (k : Nat) : Nat := 256 ^ k % 18446744073709551616
theorem step_form (N c k : Nat) (hN : N < 256 ^ k) (hc : c < 256) (hk : k < 8) :
    IntKind.u64.wrap ((N : Int) + IntKind.u64.wrap (IntKind.u64.wrap (c : Int) * ((unitN k : Nat) : Int))) = ((N + 256 ^ k * c : Nat) : Int) := by
  have hp := pow256_le k hk
  have e1 : IntKind.u64.wrap (c : Int) = (c : Int) := by rw [IntKind.wrap_u64]; omega
  have hm : 256 ^ k * c ≤ 256 ^ k * 255 := Nat.mul_le_mul_left _ (by omega)
  rw [e1, unitN, Nat.mod_eq_of_lt (by omega), ← Int.natCast_mul, Nat.mul_comm c, IntKind.wrap_u64, IntKind.wrap_u64]
  omega
theorem unit_form (k : Nat) : IntKind.u64.wrap (((unitN k : Nat) : Int) * 256) = ((unitN (k + 1) : Nat) : Int) := by
  rw [unitN, unitN, Nat.pow_succ, IntKind.wrap_u64]
  omega

set_option maxHeartbeats 400000 in
theorem rblock_any (A : Option Addr) (n c B p : Nat) (l : List UInt8) (w : World) (hr : Bytes w B A n l) (hp : p < n) (hn : n ≤ 1000000) :
    Calls Try.prog 57 #[.slice A n c, .int .i64 (p : Int)] w fun e w' => e = .returned (.int .u64 ((blkN l p : Nat) : Int)) ∧ w = w' := by
  have hl := hr.blen
  have HL := Lib.hid hl
  clear hl
  have HR := Lib.hid hr
  clear hr
  go_enter Try.func57, Try.ntmps57
  go_wp2
  go_loop [5, 6, 7] (fun t u i => ∃ k : Nat, k ≤ 8 ∧ p + k ≤ n ∧ i = .int .i64 ((p : Int) + (k : Int)) ∧ t = .int .u64 ((leN ((l.drop p).take k) : Nat) : Int) ∧ u = .int .u64 ((unitN k : Nat) : Int)) (fun _ _ i => n - (intOf i).toNat)
  case atStart => exact ⟨0, by omega, by omega, by simp, rfl, rfl⟩
  case round =>
    obtain ⟨k, hk, hkn, rfl, rfl, rfl⟩ := hrel
    by_cases h1 : p + k < n
    · by_cases h2 : k < 8
      · obtain ⟨ad, rfl, _, hc⟩ := HR.out.byte h1
        go_wp2
        go_round
        case rel =>
          refine ⟨k + 1, by omega, by omega, by go_num, ?_, ?_⟩
          · rw [leN_next _ k (by rw [List.length_drop, HL.out]; omega), ← step_form _ _ k (Nat.lt_of_lt_of_le (leN_lt _) (Nat.pow_le_pow_right (by omega) (by simp; omega))) (UInt8.toNat_lt _) h2]
            simp
          · rw [unit_form]
        case measure => simp [intOf]; omega
      · obtain rfl : k = 8 := by omega
        go_wp2
        go_ret
        exact ⟨rfl, rfl⟩
    · go_wp2
      go_ret
      exact ⟨ret_int (by rw [blkN, List.take_of_length_le (by rw [List.length_drop, HL.out]; omega), List.take_of_length_le (by rw [List.length_drop, HL.out]; omega)]), rfl⟩

theorem xor_form (a b : Nat) (ha : a < 18446744073709551616) (hb : b < 18446744073709551616) : (bits .xor .u64 (a : Int) (b : Int)) = ((a ^^^ b : Nat) : Int) := bits_xor_u64_nat a b ha hb
theorem xor_bd (a b : Nat) (ha : a < 18446744073709551616) (hb : b < 18446744073709551616) : 0 ≤ bits .xor .u64 (a : Int) (b : Int) ∧ bits .xor .u64 (a : Int) (b : Int) < 18446744073709551616 := by
  rw [xor_form a b ha hb]
  have := xor_lt a b ha hb
  omega
theorem reg_form (key : Nat) (l : List UInt8) (j : Nat) : mixN (bits .xor .u64 ((regN key l j : Nat) : Int) ((blkN l (8 * j) : Nat) : Int)).toNat = regN key l (j + 1) := by
  rw [xor_form _ _ (regN_lt _ _ _) (blkN_lt _ _), Int.toNat_natCast]
  rfl
theorem tag_form (key : Nat) (l : List UInt8) (n j : Nat) (hl : l.length = n) (h : n ≤ 1000000) (hj : (n + 7) / 8 = j) : mixN (bits .xor .u64 ((regN key l j : Nat) : Int) (n : Int)).toNat = tagN key l := by
  subst hl
  subst hj
  rw [xor_form _ _ (regN_lt _ _ _) (by omega), Int.toNat_natCast]
  rfl

set_option maxHeartbeats 400000 in
theorem rtag_any (key : Int) (h0 : 0 ≤ key) (h1 : key < 18446744073709551616) (A : Option Addr) (n c B : Nat) (l : List UInt8) (w : World) (hr : Bytes w B A n l) (hn : n ≤ 1000000) :
    Calls Try.prog 48 #[.int .u64 key, .slice A n c] w fun e w' => e = .returned (.int .u64 ((tagN key.toNat l : Nat) : Int)) ∧ w = w' := by
  have HL := Lib.hid hr.blen
  have HR := Lib.hid hr
  clear hr
  go_enter Try.func48, Try.ntmps48
  go_wp2_with fail
  refine (rmix_any _ h0 h1 _).mono ?_
  rintro e w' ⟨rfl, rfl⟩
  clear h0 h1
  go_wp2_with fail
  go_loop [5, 6] (fun h i => ∃ j : Nat, j ≤ (n + 7) / 8 ∧ i = .int .i64 (8 * (j : Int)) ∧ h = .int .u64 ((regN key.toNat l j : Nat) : Int)) (fun _ i => n + 8 - (intOf i).toNat)
  case atStart => exact ⟨0, by omega, rfl, rfl⟩
  case round =>
    obtain ⟨j, hj, rfl, rfl⟩ := hrel
    by_cases hlt : 8 * j < n
    · go_wp2_with fail
      refine (rblock_any A n c B (8 * j) l _ HR.out hlt hn).mono ?_
      rintro e w' ⟨rfl, rfl⟩
      go_wp2_with fail
      refine (rmix_any _ (xor_bd _ _ (regN_lt _ _ _) (blkN_lt _ _)).1 (xor_bd _ _ (regN_lt _ _ _) (blkN_lt _ _)).2 _).mono ?_
      rintro e w' ⟨rfl, rfl⟩
      go_wp2_with fail
      go_round
      case rel => exact ⟨j + 1, by omega, by go_num, by rw [reg_form]⟩
      case measure => simp [intOf]; omega
    · have HJ := Lib.hid (show (n + 7) / 8 = j by omega)
      go_wp2_with fail
      with_reducible refine (rmix_any _ (xor_bd _ _ (regN_lt _ _ _) (by omega)).1 (xor_bd _ _ (regN_lt _ _ _) (by omega)).2 _).mono ?_
      rintro e w' ⟨rfl, rfl⟩
      go_wp2_with fail
      go_ret
      exact ⟨ret_int (by rw [tag_form _ _ _ _ HL.out hn HJ.out]), rfl⟩

set_option maxHeartbeats 400000 in
theorem tag_any (key : Int) (h0 : 0 ≤ key) (h1 : key < 18446744073709551616) (A : Option Addr) (n c B : Nat) (l : List UInt8) (w : World) (hr : Bytes w B A n l) (hc : n ≤ c) (hn : n ≤ 1000000) :
    Calls Try.prog 31 #[.int .u64 key, .slice A n c] w fun e w' => e = .returned (.int .u64 ((tagN key.toNat l : Nat) : Int)) ∧ w = w' := by
  have HL := Lib.hid hr.blen
  have HR := Lib.hid hr
  clear hr
  go_enter Try.func31, Try.ntmps31
  go_wp2_with fail
  with_reducible refine (mix_any _ h0 h1 _).mono ?_
  rintro e w' ⟨rfl, rfl⟩
  clear h0 h1
  go_wp2_with fail
  go_loop [5, 6] (fun h i => ∃ j : Nat, j ≤ (n + 7) / 8 ∧ i = .int .i64 (8 * (j : Int)) ∧ h = .int .u64 ((regN key.toNat l j : Nat) : Int)) (fun _ i => n + 8 - (intOf i).toNat)
  case atStart => exact ⟨0, by omega, rfl, rfl⟩
  case round =>
    obtain ⟨j, hj, rfl, rfl⟩ := hrel
    by_cases hlt : 8 * j < n
    · by_cases h8 : 8 * j + 8 ≤ n
      · have HB := Lib.hid (HR.out.bpart (k := 8 * j) (d := 8) (by omega))
        have HE := Lib.hid (show leN ((l.drop (8 * j)).take 8) = blkN l (8 * j) from rfl)
        go_wp2_with fail
        with_reducible refine (block_any _ _ _ _ _ _ HB.out (by omega)).mono ?_
        rintro e w' ⟨rfl, rfl⟩
        rw [HE.out]
        go_wp2_with fail
        with_reducible refine (mix_any _ (xor_bd _ _ (regN_lt _ _ _) (blkN_lt l (8 * j))).1 (xor_bd _ _ (regN_lt _ _ _) (blkN_lt l (8 * j))).2 _).mono ?_
        rintro e w' ⟨rfl, rfl⟩
        go_wp2_with fail
        go_round
        case rel => exact ⟨j + 1, by omega, by go_num, by rw [reg_form]⟩
        case measure => simp [intOf]; omega
      · have hb := HR.out.bpart (k := 8 * j) (d := n - 8 * j) (by omega)
        have e : leN ((l.drop (8 * j)).take (n - 8 * j)) = blkN l (8 * j) := by
          rw [blkN, List.take_of_length_le (by rw [List.length_drop, HL.out]; omega), List.take_of_length_le (by rw [List.length_drop, HL.out]; omega)]
        have HE := Lib.hid e
        have HB := Lib.hid hb
        clear e hb
        go_wp2_with fail
        with_reducible refine (block_any _ _ _ _ _ _ HB.out (by omega)).mono ?_
        rintro e w' ⟨rfl, rfl⟩
        rw [HE.out]
        go_wp2_with fail
        with_reducible refine (mix_any _ (xor_bd _ _ (regN_lt _ _ _) (blkN_lt l (8 * j))).1 (xor_bd _ _ (regN_lt _ _ _) (blkN_lt l (8 * j))).2 _).mono ?_
        rintro e w' ⟨rfl, rfl⟩
        go_wp2_with fail
        go_round
        case rel => exact ⟨j + 1, by omega, by go_num, by rw [reg_form]⟩
        case measure => simp [intOf]; omega
    · have HJ := Lib.hid (show (n + 7) / 8 = j by omega)
      go_wp2_with fail
      with_reducible refine (mix_any _ (xor_bd _ _ (regN_lt _ _ _) (by omega)).1 (xor_bd _ _ (regN_lt _ _ _) (by omega)).2 _).mono ?_
      rintro e w' ⟨rfl, rfl⟩
      go_wp2_with fail
      go_ret
      exact ⟨ret_int (by rw [tag_form _ _ _ _ HL.out hn HJ.out]), rfl⟩

end Go.Proofs.Ytdmkkpnjakdnnaa
