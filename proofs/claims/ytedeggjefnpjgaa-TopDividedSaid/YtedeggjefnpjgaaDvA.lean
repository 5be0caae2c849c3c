/-
  The plain law of chapter 4: the mixing function, keys and tags as functions of numbers, and what their answers determine. No program is in sight.
  Mix, blocks and tags of chapter 4, walked: each returns what the plain law's functions say and leaves the world as it was.
  Chain of chapter 4, walked.
-/
import Derived.Laws.Bits64
import Derived.Test.YtedeggjefnpjgaaRows
import Derived.Test.YtedeggjefnpjgaaBase
namespace Go.Proofs.Ytedeggjefnpjgaa

section
/-- a shift to the right that is added without carries; a product modulo 2^64; the mixing function -/
def shN (d x : Nat) : Nat := x ^^^ x / d
def mlN (c x : Nat) : Nat := x * c % 18446744073709551616
def mixN (x : Nat) : Nat := shN 2147483648 (mlN 10723151780598845931 (shN 134217728 (mlN 13787848793156543929 (shN 1073741824 x))))

theorem xor_lt (a b : Nat) (ha : a < 18446744073709551616) (hb : b < 18446744073709551616) : a ^^^ b < 18446744073709551616 :=
  Nat.xor_lt_two_pow (n := 64) ha hb
theorem div_lt64 (a s : Nat) (ha : a < 18446744073709551616) : a / s < 18446744073709551616 := Nat.lt_of_le_of_lt (Nat.div_le_self _ _) ha
theorem shN_lt (d x : Nat) (h : x < 18446744073709551616) : shN d x < 18446744073709551616 := xor_lt _ _ h (div_lt64 _ _ h)
theorem mlN_lt (c x : Nat) : mlN c x < 18446744073709551616 := Nat.mod_lt _ (by omega)
theorem mixN_lt (x : Nat) : mixN x < 18446744073709551616 := shN_lt _ _ (mlN_lt _ _)

theorem xor_shift_inj (s d : Nat) (hd : d = 2 ^ s) (hs : 0 < s) (x y : Nat) (h : x ^^^ x / d = y ^^^ y / d) : x = y := by
  subst hd
  have e : (x ^^^ y) = (x ^^^ y) / 2 ^ s := by
    rw [Nat.xor_div_two_pow]
    have h1 : (x ^^^ x / 2 ^ s) ^^^ (y ^^^ x / 2 ^ s) = (y ^^^ y / 2 ^ s) ^^^ (y ^^^ x / 2 ^ s) := by rw [h]
    have l : (x ^^^ x / 2 ^ s) ^^^ (y ^^^ x / 2 ^ s) = x ^^^ y := by
      rw [Nat.xor_assoc, ← Nat.xor_assoc (x / 2 ^ s) y, Nat.xor_comm (x / 2 ^ s) y, Nat.xor_assoc y, Nat.xor_self, Nat.xor_zero]
    have r : (y ^^^ y / 2 ^ s) ^^^ (y ^^^ x / 2 ^ s) = x / 2 ^ s ^^^ y / 2 ^ s := by
      rw [Nat.xor_comm y (y / 2 ^ s), Nat.xor_assoc, ← Nat.xor_assoc y y, Nat.xor_self, Nat.zero_xor, Nat.xor_comm]
    rw [← l, h1, r]
  have h0 : x ^^^ y = 0 := by
    rcases Nat.eq_zero_or_pos (x ^^^ y) with h0 | h0
    · exact h0
    · have := Nat.div_lt_self h0 (show 1 < 2 ^ s from Nat.one_lt_two_pow (by omega))
      omega
  have e2 : (x ^^^ y) ^^^ y = y := by rw [h0, Nat.zero_xor]
  rwa [Nat.xor_assoc, Nat.xor_self, Nat.xor_zero] at e2

theorem mul_inj (c d : Nat) (hcd : c * d % 18446744073709551616 = 1) (x y : Nat) (hx : x < 18446744073709551616) (hy : y < 18446744073709551616)
    (h : x * c % 18446744073709551616 = y * c % 18446744073709551616) : x = y := by
  have e : ∀ z, z < 18446744073709551616 → (z * c % 18446744073709551616) * d % 18446744073709551616 = z := by
    intro z hz
    rw [Nat.mod_mul_mod, Nat.mul_assoc, Nat.mul_mod, hcd, Nat.mul_one, Nat.mod_mod, Nat.mod_eq_of_lt hz]
  rw [← e x hx, ← e y hy, h]

theorem shN_inj (s d : Nat) (hd : d = 2 ^ s) (hs : 0 < s) (x y : Nat) (h : shN d x = shN d y) : x = y := xor_shift_inj s d hd hs x y h
theorem mlN_inj (c d : Nat) (hcd : c * d % 18446744073709551616 = 1) (x y : Nat) (hx : x < 18446744073709551616) (hy : y < 18446744073709551616)
    (h : mlN c x = mlN c y) : x = y := mul_inj c d hcd x y hx hy h
theorem mixN_inj (x y : Nat) (hx : x < 18446744073709551616) (hy : y < 18446744073709551616) (h : mixN x = mixN y) : x = y := by
  have h1 := shN_inj 31 2147483648 (by decide) (by omega) _ _ h
  have h2 := mlN_inj 10723151780598845931 3573116690164977347 (by decide +kernel) _ _ (shN_lt _ _ (mlN_lt _ _)) (shN_lt _ _ (mlN_lt _ _)) h1
  have h3 := shN_inj 27 134217728 (by decide) (by omega) _ _ h2
  have h4 := mlN_inj 13787848793156543929 10871156337175269513 (by decide +kernel) _ _ (shN_lt _ _ hx) (shN_lt _ _ hy) h3
  exact shN_inj 30 1073741824 (by decide) (by omega) _ _ h4

theorem xor_left_inj (a x y : Nat) (h : a ^^^ x = a ^^^ y) : x = y := by
  have e : ∀ z, a ^^^ (a ^^^ z) = z := fun z => by rw [← Nat.xor_assoc, Nat.xor_self, Nat.zero_xor]
  rw [← e x, h, e y]
theorem xor_right_inj (a x y : Nat) (h : x ^^^ a = y ^^^ a) : x = y := xor_left_inj a x y (by rw [Nat.xor_comm a x, Nat.xor_comm a y, h])
theorem add_mod_inj (m a b : Nat) (h : (m + a) % 18446744073709551616 = (m + b) % 18446744073709551616) : a % 18446744073709551616 = b % 18446744073709551616 := by omega

/-- the key of a number -/
def keyN (master : Nat) (id : Int) : Nat := mixN ((master + (id % 18446744073709551616).toNat * 11400714819323198485) % 18446744073709551616)
theorem keyN_lt (m : Nat) (i : Int) : keyN m i < 18446744073709551616 := mixN_lt _
theorem keyN_inj (m : Nat) (i j : Int) (hi : -9223372036854775808 ≤ i ∧ i ≤ 9223372036854775807) (hj : -9223372036854775808 ≤ j ∧ j ≤ 9223372036854775807)
    (h : keyN m i = keyN m j) : i = j := by
  have h1 := mixN_inj _ _ (Nat.mod_lt _ (by omega)) (Nat.mod_lt _ (by omega)) h
  have h2 : ((i % 18446744073709551616).toNat * 11400714819323198485) % 18446744073709551616 = ((j % 18446744073709551616).toNat * 11400714819323198485) % 18446744073709551616 := add_mod_inj _ _ _ h1
  have h3 := mul_inj 11400714819323198485 17428512612931826493 (by decide +kernel) _ _ (by clear h1 h2 h; omega) (by clear h1 h2 h; omega) h2
  clear h h1 h2
  omega

/-- bytes as a number, the first one the lowest -/
def leN : List UInt8 → Nat
  | [] => 0
  | c :: l => c.toNat + 256 * leN l
theorem leN_lt (l : List UInt8) : leN l < 256 ^ l.length := by
  induction l with
  | nil => simp [leN]
  | cons c l ih =>
    have := c.toNat_lt
    simp only [leN, List.length_cons, Nat.pow_succ]
    omega
theorem leN_append (l r : List UInt8) : leN (l ++ r) = leN l + 256 ^ l.length * leN r := by
  induction l with
  | nil => simp [leN]
  | cons c l ih =>
    simp only [List.cons_append, leN, ih, List.length_cons, Nat.pow_succ]
    rw [Nat.mul_add, Nat.mul_comm (256 ^ l.length) 256, Nat.mul_assoc]
    omega
theorem leN_zeros (k : Nat) : leN (List.replicate k 0) = 0 := by
  induction k with
  | zero => rfl
  | succ k ih => simp [List.replicate_succ, leN, ih]
theorem leN_inj : ∀ (l r : List UInt8), l.length = r.length → leN l = leN r → l = r
  | [], [], _, _ => rfl
  | c :: l, d :: r, hl, h => by
    have h1 := c.toNat_lt
    have h2 := d.toNat_lt
    simp only [leN] at h
    have e1 : c.toNat = d.toNat := by omega
    have e2 : leN l = leN r := by omega
    rw [UInt8.toNat_inj.1 e1, leN_inj l r (by simpa using hl) e2]
  | [], _ :: _, hl, _ => by simp at hl
  | _ :: _, [], hl, _ => by simp at hl

/-- the block of at most eight bytes that begins at an index -/
def blkN (l : List UInt8) (at_ : Nat) : Nat := leN ((l.drop at_).take 8)
theorem blkN_lt (l : List UInt8) (k : Nat) : blkN l k < 18446744073709551616 := by
  have h := leN_lt ((l.drop k).take 8)
  have hl : ((l.drop k).take 8).length ≤ 8 := by simp; omega
  have := Nat.pow_le_pow_right (show 0 < 256 by omega) hl
  unfold blkN
  omega

/-- the register after j blocks -/
def regN (key : Nat) (l : List UInt8) : Nat → Nat
  | 0 => mixN key
  | j + 1 => mixN (regN key l j ^^^ blkN l (8 * j))
theorem regN_lt (key : Nat) (l : List UInt8) (j : Nat) : regN key l j < 18446744073709551616 := by cases j <;> exact mixN_lt _
def tagN (key : Nat) (l : List UInt8) : Nat := mixN (regN key l ((l.length + 7) / 8) ^^^ l.length)
theorem tagN_lt (key : Nat) (l : List UInt8) : tagN key l < 18446744073709551616 := mixN_lt _

theorem regN_key (a b : Nat) (ha : a < 18446744073709551616) (hb : b < 18446744073709551616) (l : List UInt8) (j : Nat) (h : regN a l j = regN b l j) : a = b := by
  induction j with
  | zero => exact mixN_inj _ _ ha hb h
  | succ j ih => exact ih (xor_right_inj _ _ _ (mixN_inj _ _ (xor_lt _ _ (regN_lt _ _ _) (blkN_lt _ _)) (xor_lt _ _ (regN_lt _ _ _) (blkN_lt _ _)) h))
theorem tagN_key (a b : Nat) (ha : a < 18446744073709551616) (hb : b < 18446744073709551616) (l : List UInt8) (hl : l.length < 18446744073709551616) (h : tagN a l = tagN b l) : a = b :=
  regN_key a b ha hb l _ (xor_right_inj _ _ _ (mixN_inj _ _ (xor_lt _ _ (regN_lt _ _ _) hl) (xor_lt _ _ (regN_lt _ _ _) hl) h))

/-- a change within one block -/
theorem regN_same (key : Nat) (l r : List UInt8) (j : Nat) (h : ∀ i, i < j → blkN l (8 * i) = blkN r (8 * i)) : regN key l j = regN key r j := by
  induction j with
  | zero => rfl
  | succ j ih => simp only [regN]; rw [ih fun i hi => h i (by omega), h j (by omega)]
theorem regN_differ (key : Nat) (l r : List UInt8) (k : Nat) (hk : blkN l (8 * k) ≠ blkN r (8 * k)) (h : ∀ i, i ≠ k → blkN l (8 * i) = blkN r (8 * i)) (d : Nat) :
    regN key l (k + 1 + d) ≠ regN key r (k + 1 + d) := by
  induction d with
  | zero =>
    intro e
    have e1 := mixN_inj _ _ (xor_lt _ _ (regN_lt _ _ _) (blkN_lt _ _)) (xor_lt _ _ (regN_lt _ _ _) (blkN_lt _ _)) e
    rw [regN_same key l r k fun i hi => h i (by omega)] at e1
    exact hk (xor_left_inj _ _ _ e1)
  | succ d ih =>
    intro e
    have e1 := mixN_inj _ _ (xor_lt _ _ (regN_lt _ _ _) (blkN_lt _ _)) (xor_lt _ _ (regN_lt _ _ _) (blkN_lt _ _)) e
    change regN key l (k + 1 + d) ^^^ blkN l (8 * (k + 1 + d)) = regN key r (k + 1 + d) ^^^ blkN r (8 * (k + 1 + d)) at e1
    rw [h (k + 1 + d) (by omega)] at e1
    exact ih (xor_right_inj _ _ _ e1)
theorem tagN_block (key : Nat) (l r : List UInt8) (hlen : l.length = r.length) (h64 : l.length < 18446744073709551616) (k : Nat) (hin : 8 * k < l.length)
    (hk : blkN l (8 * k) ≠ blkN r (8 * k)) (h : ∀ i, i ≠ k → blkN l (8 * i) = blkN r (8 * i)) : tagN key l ≠ tagN key r := by
  intro e
  have e1 := mixN_inj _ _ (xor_lt _ _ (regN_lt _ _ _) h64) (xor_lt _ _ (regN_lt _ _ _) (by omega)) e
  rw [← hlen] at e1
  have hd := regN_differ key l r k hk h ((l.length + 7) / 8 - (k + 1))
  rw [show k + 1 + ((l.length + 7) / 8 - (k + 1)) = (l.length + 7) / 8 by omega] at hd
  exact hd (xor_right_inj _ _ _ e1)

/-- zero bytes that are added within the last block -/
theorem blkN_zeros (l : List UInt8) (z i : Nat) (hz : l.length % 8 + z ≤ 8) (hp : 0 < l.length % 8) : blkN (l ++ List.replicate z 0) (8 * i) = blkN l (8 * i) := by
  unfold blkN
  rcases Nat.lt_or_ge (8 * i) l.length with h | h
  · rw [List.drop_append_of_le_length (by omega)]
    rcases Nat.lt_or_ge (l.length - 8 * i) 8 with h8 | h8
    · rw [List.take_of_length_le (by simp; omega), List.take_of_length_le (by simp; omega), leN_append, leN_zeros]
      omega
    · rw [List.take_append_of_le_length (by simp; omega)]
  · rw [List.drop_eq_nil_of_le (by simp; omega), List.drop_eq_nil_of_le (by omega)]
theorem tagN_zeros (key : Nat) (l : List UInt8) (y z : Nat) (hz : l.length % 8 + z ≤ 8) (hp : 0 < l.length % 8) (hyz : y < z) (h64 : l.length + z < 18446744073709551616) :
    tagN key (l ++ List.replicate z 0) ≠ tagN key (l ++ List.replicate y 0) := by
  intro e
  unfold tagN at e
  have e1 := mixN_inj _ _ (xor_lt _ _ (regN_lt _ _ _) (by simpa using h64)) (xor_lt _ _ (regN_lt _ _ _) (by simp; omega)) e
  rw [regN_same key (l ++ List.replicate z 0) (l ++ List.replicate y 0) _ (fun i _ => by rw [blkN_zeros l z i hz hp, blkN_zeros l y i (by omega) hp])] at e1
  rw [show ((l ++ List.replicate z (0 : UInt8)).length + 7) / 8 = ((l ++ List.replicate y (0 : UInt8)).length + 7) / 8 by simp; omega] at e1
  have e2 := xor_left_inj _ _ _ e1
  simp at e2
  omega
end

section
open Go.RowKit

theorem ret_int {k : IntKind} {a b : Int} (h : a = b) : Ending.returned (.int k a) = .returned (.int k b) := by rw [h]
theorem ret_bool {a b : Bool} (h : a = b) : Ending.returned (.bool a) = .returned (.bool b) := by rw [h]

theorem sh_i (X d : Nat) (D : Int) (hd : (d : Int) = D) (hX : X < 18446744073709551616) : bits .xor .u64 (X : Int) ((X : Int) / D) = ((shN d X : Nat) : Int) := by
  subst hd
  exact xorShift_u64 X d hX
theorem ml_i (X c : Nat) (C : Int) (hc : (c : Int) = C) : IntKind.u64.wrap ((X : Int) * C) = ((mlN c X : Nat) : Int) := by
  subst hc
  rw [IntKind.wrap_u64, mlN]
  omega
theorem mix_form (X : Nat) (hX : X < 18446744073709551616) :
    bits .xor .u64 (IntKind.u64.wrap (bits .xor .u64 (IntKind.u64.wrap (bits .xor .u64 (X : Int) ((X : Int) / 1073741824) * 13787848793156543929)) (IntKind.u64.wrap (bits .xor .u64 (X : Int) ((X : Int) / 1073741824) * 13787848793156543929) / 134217728) * 10723151780598845931))
      (IntKind.u64.wrap (bits .xor .u64 (IntKind.u64.wrap (bits .xor .u64 (X : Int) ((X : Int) / 1073741824) * 13787848793156543929)) (IntKind.u64.wrap (bits .xor .u64 (X : Int) ((X : Int) / 1073741824) * 13787848793156543929) / 134217728) * 10723151780598845931) / 2147483648)
      = ((mixN X : Nat) : Int) := by
  rw [sh_i X 1073741824 1073741824 rfl hX, ml_i _ 13787848793156543929 13787848793156543929 rfl, sh_i _ 134217728 134217728 rfl (mlN_lt _ _), ml_i _ 10723151780598845931 10723151780598845931 rfl, sh_i _ 2147483648 2147483648 rfl (mlN_lt _ _)]
  rfl

set_option maxHeartbeats 400000 in
theorem mix_any (x : Int) (h0 : 0 ≤ x) (h1 : x < 18446744073709551616) (w : World) :
    Calls Try.prog 63 #[.int .u64 x] w fun e w' => e = .returned (.int .u64 ((mixN x.toNat : Nat) : Int)) ∧ w = w' := by
  obtain ⟨X, rfl⟩ := Int.eq_ofNat_of_zero_le h0
  have hX : X < 18446744073709551616 := by omega
  clear h0 h1
  go_enter Try.func63, Try.ntmps63
  go_wp2
  go_ret
  exact ⟨ret_int (mix_form X hX), rfl⟩

theorem take_next (l : List UInt8) (k : Nat) (h : k < l.length) : l.take (k + 1) = l.take k ++ [l.getD k 0] := by
  rw [List.take_succ_eq_append_getElem h]
  simp [List.getD, List.getElem?_eq_getElem h]
theorem leN_next (l : List UInt8) (k : Nat) (h : k < l.length) : leN (l.take (k + 1)) = leN (l.take k) + 256 ^ k * (l.getD k 0).toNat := by
  rw [take_next l k h, leN_append, List.length_take, Nat.min_eq_left (by omega)]
  simp [leN]
theorem pow256_le (k : Nat) (h : k < 8) : 256 ^ k ≤ 72057594037927936 := Nat.pow_le_pow_right (show 0 < 256 by omega) (show k ≤ 7 by omega)
theorem or_form (L c k : Nat) (hL : L < 256 ^ k) (hc : c < 256) (hk : k < 8) :
    bits .or .u64 (L : Int) (IntKind.u64.wrap (IntKind.u64.wrap (c : Int) * 2 ^ (8 * k))) = ((L + 256 ^ k * c : Nat) : Int) := by
  have hp := pow256_le k hk
  have e : (256 : Nat) ^ k = 2 ^ (8 * k) := by rw [Nat.pow_mul]
  have e1 : IntKind.u64.wrap (c : Int) = (c : Int) := by rw [IntKind.wrap_u64]; omega
  have e2 : (2 : Int) ^ (8 * k) = ((256 ^ k : Nat) : Int) := by rw [e]; simp
  have hm : 256 ^ k * c ≤ 256 ^ k * 255 := Nat.mul_le_mul_left _ (by omega)
  have e3 : IntKind.u64.wrap ((c : Int) * ((256 ^ k : Nat) : Int)) = ((256 ^ k * c : Nat) : Int) := by
    rw [IntKind.wrap_u64, ← Int.natCast_mul, Nat.mul_comm c]
    omega
  rw [e1, e2, e3, bits_or_u64_nat _ _ (by omega) (by omega)]
  rw [e, Nat.or_comm, ← Nat.two_pow_add_eq_or_of_lt (by omega), Nat.add_comm]

set_option maxHeartbeats 400000 in
theorem block_any (A : Option Addr) (n c B : Nat) (l : List UInt8) (w : World) (hr : Bytes w B A n l) (hn : n ≤ 8) :
    Calls Try.prog 64 #[.slice A n c] w fun e w' => e = .returned (.int .u64 ((leN l : Nat) : Int)) ∧ w = w' := by
  have hl := hr.blen
  have HL := Lib.hid hl
  clear hl
  have HR := Lib.hid hr
  clear hr
  go_enter Try.func64, Try.ntmps64
  go_wp2
  go_loop [3, 8] (fun t i => ∃ k : Nat, k ≤ n ∧ i = .int .i64 k ∧ t = .int .u64 ((leN (l.take k) : Nat) : Int)) (fun _ i => n - (intOf i).toNat)
  case atStart => exact ⟨0, Nat.zero_le _, rfl, rfl⟩
  case round =>
    obtain ⟨k, hk, rfl, rfl⟩ := hrel
    by_cases hlt : k < n
    · obtain ⟨ad, rfl, _, hc⟩ := HR.out.byte hlt
      go_wp2
      go_round
      case rel =>
        refine ⟨k + 1, by omega, by go_num, ?_⟩
        rw [leN_next l k (by rw [HL.out]; exact hlt), ← or_form _ _ k (Nat.lt_of_lt_of_le (leN_lt _) (Nat.pow_le_pow_right (by omega) (by simp; omega))) (UInt8.toNat_lt _) (by omega)]
        simp
      case measure => simp [intOf]; omega
    · go_wp2
      go_ret
      exact ⟨ret_int (by rw [List.take_of_length_le (by rw [HL.out]; omega)]), rfl⟩

def unitN (k : Nat) : Nat := 256 ^ k % 18446744073709551616
theorem step_form (N c k : Nat) (hN : N < 256 ^ k) (hc : c < 256) (hk : k < 8) :
    IntKind.u64.wrap ((N : Int) + IntKind.u64.wrap (IntKind.u64.wrap (c : Int) * ((unitN k : Nat) : Int))) = ((N + 256 ^ k * c : Nat) : Int) := by
  have hp := pow256_le k hk
  have e1 : IntKind.u64.wrap (c : Int) = (c : Int) := by rw [IntKind.wrap_u64]; omega
  have hm : 256 ^ k * c ≤ 256 ^ k * 255 := Nat.mul_le_mul_left _ (by omega)
  rw [e1, unitN, Nat.mod_eq_of_lt (by omega), ← Int.natCast_mul, Nat.mul_comm c, IntKind.wrap_u64, IntKind.wrap_u64]
  omega
theorem unit_form (k : Nat) : IntKind.u64.wrap (((unitN k : Nat) : Int) * 256) = ((unitN (k + 1) : Nat) : Int) := by
  rw [unitN, unitN, Nat.pow_succ, IntKind.wrap_u64]
  omega

theorem xor_form (a b : Nat) (ha : a < 18446744073709551616) (hb : b < 18446744073709551616) : (bits .xor .u64 (a : Int) (b : Int)) = ((a ^^^ b : Nat) : Int) := bits_xor_u64_nat a b ha hb
theorem xor_bd (a b : Nat) (ha : a < 18446744073709551616) (hb : b < 18446744073709551616) : 0 ≤ bits .xor .u64 (a : Int) (b : Int) ∧ bits .xor .u64 (a : Int) (b : Int) < 18446744073709551616 := by
  rw [xor_form a b ha hb]
  have := xor_lt a b ha hb
  omega
theorem reg_form (key : Nat) (l : List UInt8) (j : Nat) : mixN (bits .xor .u64 ((regN key l j : Nat) : Int) ((blkN l (8 * j) : Nat) : Int)).toNat = regN key l (j + 1) := by
  rw [xor_form _ _ (regN_lt _ _ _) (blkN_lt _ _), Int.toNat_natCast]
  rfl
theorem tag_form (key : Nat) (l : List UInt8) (n j : Nat) (hl : l.length = n) (h : n ≤ 1000000) (hj : (n + 7) / 8 = j) : mixN (bits .xor .u64 ((regN key l j : Nat) : Int) (n : Int)).toNat = tagN key l := by
  subst hl
  subst hj
  rw [xor_form _ _ (regN_lt _ _ _) (by omega), Int.toNat_natCast]
  rfl

set_option maxHeartbeats 400000 in
theorem tag_any (key : Int) (h0 : 0 ≤ key) (h1 : key < 18446744073709551616) (A : Option Addr) (n c B : Nat) (l : List UInt8) (w : World) (hr : Bytes w B A n l) (hc : n ≤ c) (hn : n ≤ 1000000) :
    Calls Try.prog 60 #[.int .u64 key, .slice A n c] w fun e w' => e = .returned (.int .u64 ((tagN key.toNat l : Nat) : Int)) ∧ w = w' := by
  have HL := Lib.hid hr.blen
  have HR := Lib.hid hr
  clear hr
  go_enter Try.func60, Try.ntmps60
  go_wp2_with fail
  with_reducible refine (mix_any _ h0 h1 _).mono ?_
  rintro e w' ⟨rfl, rfl⟩
  clear h0 h1
  go_wp2_with fail
  go_loop [5, 6] (fun h i => ∃ j : Nat, j ≤ (n + 7) / 8 ∧ i = .int .i64 (8 * (j : Int)) ∧ h = .int .u64 ((regN key.toNat l j : Nat) : Int)) (fun _ i => n + 8 - (intOf i).toNat)
  case atStart => exact ⟨0, by omega, rfl, rfl⟩
  case round =>
    obtain ⟨j, hj, rfl, rfl⟩ := hrel
    by_cases hlt : 8 * j < n
    · by_cases h8 : 8 * j + 8 ≤ n
      · have HB := Lib.hid (HR.out.bpart (k := 8 * j) (d := 8) (by omega))
        have HE := Lib.hid (show leN ((l.drop (8 * j)).take 8) = blkN l (8 * j) from rfl)
        go_wp2_with fail
        with_reducible refine (block_any _ _ _ _ _ _ HB.out (by omega)).mono ?_
        rintro e w' ⟨rfl, rfl⟩
        rw [HE.out]
        go_wp2_with fail
        with_reducible refine (mix_any _ (xor_bd _ _ (regN_lt _ _ _) (blkN_lt l (8 * j))).1 (xor_bd _ _ (regN_lt _ _ _) (blkN_lt l (8 * j))).2 _).mono ?_
        rintro e w' ⟨rfl, rfl⟩
        go_wp2_with fail
        go_round
        case rel => exact ⟨j + 1, by omega, by go_num, by rw [reg_form]⟩
        case measure => simp [intOf]; omega
      · have hb := HR.out.bpart (k := 8 * j) (d := n - 8 * j) (by omega)
        have e : leN ((l.drop (8 * j)).take (n - 8 * j)) = blkN l (8 * j) := by
          rw [blkN, List.take_of_length_le (by rw [List.length_drop, HL.out]; omega), List.take_of_length_le (by rw [List.length_drop, HL.out]; omega)]
        have HE := Lib.hid e
        have HB := Lib.hid hb
        clear e hb
        go_wp2_with fail
        with_reducible refine (block_any _ _ _ _ _ _ HB.out (by omega)).mono ?_
        rintro e w' ⟨rfl, rfl⟩
        rw [HE.out]
        go_wp2_with fail
        with_reducible refine (mix_any _ (xor_bd _ _ (regN_lt _ _ _) (blkN_lt l (8 * j))).1 (xor_bd _ _ (regN_lt _ _ _) (blkN_lt l (8 * j))).2 _).mono ?_
        rintro e w' ⟨rfl, rfl⟩
        go_wp2_with fail
        go_round
        case rel => exact ⟨j + 1, by omega, by go_num, by rw [reg_form]⟩
        case measure => simp [intOf]; omega
    · have HJ := Lib.hid (show (n + 7) / 8 = j by omega)
      go_wp2_with fail
      with_reducible refine (mix_any _ (xor_bd _ _ (regN_lt _ _ _) (by omega)).1 (xor_bd _ _ (regN_lt _ _ _) (by omega)).2 _).mono ?_
      rintro e w' ⟨rfl, rfl⟩
      go_wp2_with fail
      go_ret
      exact ⟨ret_int (by rw [tag_form _ _ _ _ HL.out hn HJ.out]), rfl⟩
end

section
open Go.RowKit

set_option maxHeartbeats 400000 in
theorem chain_any (key : Int) (h0 : 0 ≤ key) (h1 : key < 18446744073709551616) (A : Option Addr) (n c B : Nat) (l : List UInt8) (w : World) (hr : Bytes w B A n l) (hc : n ≤ c) (hn : n ≤ 1000000) :
    Calls Try.prog 56 #[.int .u64 key, .slice A n c] w fun e w' => e = .returned (.int .u64 ((tagN key.toNat l : Nat) : Int)) ∧ w = w' := by
  have HR := Lib.hid hr
  clear hr
  go_enter Try.func56, Try.ntmps56
  go_wp2_with fail
  with_reducible refine (tag_any _ h0 h1 _ _ _ _ _ _ HR.out hc hn).mono ?_
  rintro e w' ⟨rfl, rfl⟩
  go_wp2_with fail
  go_ret
  exact ⟨rfl, rfl⟩
end

end Go.Proofs.Ytedeggjefnpjgaa
