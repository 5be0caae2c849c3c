/-
  The plain law of chapter 4: the mixing function, keys and tags as functions of numbers, and what their answers determine. No program is in sight.
-/
import Derived.Laws.Bits64
namespace Go.Proofs.Ytdmkkpnjakdnnaa

/-- a shift to the right that is added without carries; a product modulo 2^64; the mixing function -/
def shN (d x : Nat) : Nat := x ^^^ x / d
def mlN (c x : Nat) : Nat := x * c % 18446744073709551616
def mixN (x : Nat) : Nat := shN 2147483648 (mlN 10723151780598845931 (shN 134217728 (mlN 13787848793156543929 (shN 1073741824 x))))

theorem xor_lt (a b : Nat) (ha : a < 18446744073709551616) (hb : b < 18446744073709551616) : a ^^^ b < 18446744073709551616 :=
  Nat.xor_lt_two_pow (n := 64) ha hb
theorem div_lt64 (a s : Nat) (ha : a < 18446744073709551616) : a / s < 18446744073709551616 := Nat.lt_of_le_of_lt (Nat.div_le_self _ _) ha
theorem shN_lt (d x : Nat) (h : x < 18446744073709551616) : shN d x < 18446744073709551616 := xor_lt _ _ h (div_lt64 _ _ h)
theorem mlN_lt (c x : Nat) : mlN c x < 18446744073709551616 := Nat.mod_lt _ (by omega)
theorem mixN_lt (x : Nat) : mixN x < 18446744073709551616 := shN_lt _ _ (mlN_lt _ _)

theorem xor_shift_inj (s d : Nat) (hd : d = 2 ^ s) (hs : 0 < s) (x y : Nat) (h : x ^^^ x / d = y ^^^ y / d) : x = y := by
  subst hd
  have e : (x ^^^ y) = (x ^^^ y) / 2 ^ s := by
    rw [Nat.xor_div_two_pow]
    have h1 : (x ^^^ x / 2 ^ s) ^^^ (y ^^^ x / 2 ^ s) = (y ^^^ y / 2 ^ s) ^^^ (y ^^^ x / 2 ^ s) := by rw [h]
    have l : (x ^^^ x / 2 ^ s) ^^^ (y ^^^ x / 2 ^ s) = x ^^^ y := by
      rw [Nat.xor_assoc, ← Nat.xor_assoc (x / 2 ^ s) y, Nat.xor_comm (x / 2 ^ s) y, Nat.xor_assoc y, Nat.xor_self, Nat.xor_zero]
    have r : (y ^^^ y / 2 ^ s) ^^^ (y ^^^ x / 2 ^ s) = x / 2 ^ s ^^^ y / 2 ^ s := by
      rw [Nat.xor_comm y (y / 2 ^ s), Nat.xor_assoc, ← Nat.xor_assoc y y, Nat.xor_self, Nat.zero_xor, Nat.xor_comm]
    rw [← l, h1, r]
  have h0 : x ^^^ y = 0 := by
    rcases Nat.eq_zero_or_pos (x ^^^ y) with h0 | h0
    · exact h0
    · have := Nat.div_lt_self h0 (show 1 < 2 ^ s from Nat.one_lt_two_pow (by omega))
      omega
  have e2 : (x ^^^ y) ^^^ y = y := by rw [h0, Nat.zero_xor]
  rwa [Nat.xor_assoc, Nat.xor_self, Nat.xor_zero] at e2

theorem mul_inj (c d : Nat) (hcd : c * d % 18446744073709551616 = 1) (x y : Nat) (hx : x < 18446744073709551616) (hy : y < 18446744073709551616)
    (h : x * c % 18446744073709551616 = y * c % 18446744073709551616) : x = y := by
  have e : ∀ z, z < 18446744073709551616 → (z * c % 18446744073709551616) * d % 18446744073709551616 = z := by
    intro z hz
    rw [Nat.mod_mul_mod, Nat.mul_assoc, Nat.mul_mod, hcd, Nat.mul_one, Nat.mod_mod, Nat.mod_eq_of_lt hz]
  rw [← e x hx, ← e y hy, h]

theorem shN_inj (s d : Nat) (hd : d = 2 ^ s) (hs : 0 < s) (x y : Nat) (h : shN d x = shN d y) : x = y := xor_shift_inj s d hd hs x y h
theorem mlN_inj (c d : Nat) (hcd : c * d % 18446744073709551616 = 1) (x y : Nat) (hx : x < 18446744073709551616) (hy : y < 18446744073709551616)
    (h : mlN c x = mlN c y) : x = y := mul_inj c d hcd x y hx hy h
theorem mixN_inj (x y : Nat) (hx : x < 18446744073709551616) (hy : y < 18446744073709551616) (h : mixN x = mixN y) : x = y := by
  have h1 := shN_inj 31 2147483648 (by decide) (by omega) _ _ h
  have h2 := mlN_inj 10723151780598845931 3573116690164977347 (by decide +kernel) _ _ (shN_lt _ _ (mlN_lt _ _)) (shN_lt _ _ (mlN_lt _ _)) h1
  have h3 := shN_inj 27 134217728 (by decide) (by omega) _ _ h2
  have h4 := mlN_inj 13787848793156543929 10871156337175269513 (by decide +kernel) _ _ (shN_lt _ _ hx) (shN_lt _ _ hy) h3
  exact shN_inj 30 1073741824 (by decide) (by omega) _ _ h4

theorem xor_left_inj (a x y : Nat) (h : a ^^^ x = a ^^^ y) : x = y := by
  have e : ∀ z, a ^^^ (a ^^^ z) = z := fun z => by rw [← Nat.xor_assoc, Nat.xor_self, Nat.zero_xor]
  rw [← e x, h, e y]
theorem xor_right_inj (a x y : Nat) (h : x ^^^ a = y ^^^ a) : x = y := xor_left_inj a x y (by rw [Nat.xor_comm a x, Nat.xor_comm a y, h])
theorem add_mod_inj (m a b : Nat) (h : (m + a) % 18446744073709551616 = (m + b) % 18446744073709551616) : a % 18446744073709551616 = b % 18446744073709551616 := by omega

/-- the key of a number -/
def keyN (master : Nat) (id : Int) : Nat := mixN ((master + (id % 18446744073709551616).toNat * 11400714819323198485) % 18446744073709551616)
theorem keyN_lt (m : Nat) (i : Int) : keyN m i < 18446744073709551616 := mixN_lt _
theorem keyN_inj (m : Nat) (i j : Int) (hi : -9223372036854775808 ≤ i ∧ i ≤ 9223372036854775807) (hj : -9223372036854775808 ≤ j ∧ j ≤ 9223372036854775807)
    (h : keyN m i = keyN m j) : i = j := by
  have h1 := mixN_inj _ _ (Nat.mod_lt _ (by omega)) (Nat.mod_lt _ (by omega)) h
  have h2 : ((i % 18446744073709551616).toNat * 11400714819323198485) % 18446744073709551616 = ((j % 18446744073709551616).toNat * 11400714819323198485) % 18446744073709551616 := add_mod_inj _ _ _ h1
  have h3 := mul_inj 11400714819323198485 17428512612931826493 (by decide +kernel) _ _ (by clear h1 h2 h; omega) (by clear h1 h2 h; omega) h2
  clear h h1 h2
  omega

/-- bytes as a number, the first one the lowest -/
def leN : List UInt8 → Nat
  | [] => 0
  | c :: l => c.toNat + 256 * leN l
theorem leN_lt (l : List UInt8) : leN l < 256 ^ l.length := by
  induction l with
  | nil => simp [leN]
  | cons c l ih =>
    have := c.toNat_lt
    simp only [leN, List.length_cons, Nat.pow_succ]
    omega
theorem leN_append (l r : List UInt8) : leN (l ++ r) = leN l + 256 ^ l.length * leN r := by
  induction l with
  | nil => simp [leN]
  | cons c l ih =>
    simp only [List.cons_append, leN, ih, List.length_cons, Nat.pow_succ]
    rw [Nat.mul_add, Nat.mul_comm (256 ^ l.length) 256, Nat.mul_assoc]
    omega
theorem leN_zeros (k : Nat) : leN (List.replicate k 0) = 0 := by
  induction k with
  | zero => rfl
  | succ k ih => simp [List.replicate_succ, leN, ih]
theorem leN_inj : ∀ (l r : List UInt8), l.length = r.length → leN l = leN r → l = r
  | [], [], _, _ => rfl
  | c :: l, d :: r, hl, h => by
    have h1 := c.toNat_lt
    have h2 := d.toNat_lt
    simp only [leN] at h
    have e1 : c.toNat = d.toNat := by omega
    have e2 : leN l = leN r := by omega
    rw [UInt8.toNat_inj.1 e1, leN_inj l r (by simpa using hl) e2]
  | [], _ :: _, hl, _ => by simp at hl
  | _ :: _, [], hl, _ => by simp at hl

/-- the block of at most eight bytes that begins at an index -/
def blkN (l : List UInt8) (at_ : Nat) : Nat := leN ((l.drop at_).take 8)
theorem blkN_lt (l : List UInt8) (k : Nat) : blkN l k < 18446744073709551616 := by
  have h := leN_lt ((l.drop k).take 8)
  have hl : ((l.drop k).take 8).length ≤ 8 := by simp; omega
  have := Nat.pow_le_pow_right (show 0 < 256 by omega) hl
  unfold blkN
  omega

/-- the register after j blocks -/
def regN (key : Nat) (l : List UInt8) : Nat → Nat
  | 0 => mixN key
  | j + 1 => mixN (regN key l j ^^^ blkN l (8 * j))
theorem regN_lt (key : Nat) (l : List UInt8) (j : Nat) : regN key l j < 18446744073709551616 := by cases j <;> exact mixN_lt _
def tagN (key : Nat) (l : List UInt8) : Nat := mixN (regN key l ((l.length + 7) / 8) ^^^ l.length)
theorem tagN_lt (key : Nat) (l : List UInt8) : tagN key l < 18446744073709551616 := mixN_lt _

theorem regN_key (a b : Nat) (ha : a < 18446744073709551616) (hb : b < 18446744073709551616) (l : List UInt8) (j : Nat) (h : regN a l j = regN b l j) : a = b := by
  induction j with
  | zero => exact mixN_inj _ _ ha hb h
  | succ j ih => exact ih (xor_right_inj _ _ _ (mixN_inj _ _ (xor_lt _ _ (regN_lt _ _ _) (blkN_lt _ _)) (xor_lt _ _ (regN_lt _ _ _) (blkN_lt _ _)) h))
theorem tagN_key (a b : Nat) (ha : a < 18446744073709551616) (hb : b < 18446744073709551616) (l : List UInt8) (hl : l.length < 18446744073709551616) (h : tagN a l = tagN b l) : a = b :=
  regN_key a b ha hb l _ (xor_right_inj _ _ _ (mixN_inj _ _ (xor_lt _ _ (regN_lt _ _ _) hl) (xor_lt _ _ (regN_lt _ _ _) hl) h))

/-- a change within one block -/
theorem regN_same (key : Nat) (l r : List UInt8) (j : Nat) (h : ∀ i, i < j → blkN l (8 * i) = blkN r (8 * i)) : regN key l j = regN key r j := by
  induction j with
  | zero => rfl
  | succ j ih => simp only [regN]; rw [ih fun i hi => h i (by omega), h j (by omega)]
theorem regN_differ (key : Nat) (l r : List UInt8) (k : Nat) (hk : blkN l (8 * k) ≠ blkN r (8 * k)) (h : ∀ i, i ≠ k → blkN l (8 * i) = blkN r (8 * i)) (d : Nat) :
    regN key l (k + 1 + d) ≠ regN key r (k + 1 + d) := by
  induction d with
  | zero =>
    intro e
    have e1 := mixN_inj _ _ (xor_lt _ _ (regN_lt _ _ _) (blkN_lt _ _)) (xor_lt _ _ (regN_lt _ _ _) (blkN_lt _ _)) e
    rw [regN_same key l r k fun i hi => h i (by omega)] at e1
    exact hk (xor_left_inj _ _ _ e1)
  | succ d ih =>
    intro e
    have e1 := mixN_inj _ _ (xor_lt _ _ (regN_lt _ _ _) (blkN_lt _ _)) (xor_lt _ _ (regN_lt _ _ _) (blkN_lt _ _)) e
    change regN key l (k + 1 + d) ^^^ blkN l (8 * (k + 1 + d)) = regN key r (k + 1 + d) ^^^ blkN r (8 * (k + 1 + d)) at e1
    rw [h (k + 1 + d) (by omega)] at e1
    exact ih (xor_right_inj _ _ _ e1)
theorem tagN_block (key : Nat) (l r : List UInt8) (hlen : l.length = r.length) (h64 : l.length < 18446744073709551616) (k : Nat) (hin : 8 * k < l.length)
    (hk : blkN l (8 * k) ≠ blkN r (8 * k)) (h : ∀ i, i ≠ k → blkN l (8 * i) = blkN r (8 * i)) : tagN key l ≠ tagN key r := by
  intro e
  have e1 := mixN_inj _ _ (xor_lt _ _ (regN_lt _ _ _) h64) (xor_lt _ _ (regN_lt _ _ _) (by omega)) e
  rw [← hlen] at e1
  have hd := regN_differ key l r k hk h ((l.length + 7) / 8 - (k + 1))
  rw [show k + 1 + ((l.length + 7) / 8 - (k + 1)) = (l.length + 7) / 8 by omega] at hd
  exact hd (xor_right_inj _ _ _ e1)

/-- zero bytes that are added within the last block -/
theorem blkN_zeros (l : List UInt8) (z i : Nat) (hz : l.length % 8 + z ≤ 8) (hp : 0 < l.length % 8) : blkN (l ++ List.replicate z 0) (8 * i) = blkN l (8 * i) := by
  unfold blkN
  rcases Nat.lt_or_ge (8 * i) l.length with h | h
  · rw [List.drop_append_of_le_length (by omega)]
    rcases Nat.lt_or_ge (l.length - 8 * i) 8 with h8 | h8
    · rw [List.take_of_length_le (by simp; omega), List.take_of_length_le (by simp; omega), leN_append, leN_zeros]
      omega
    · rw [List.take_append_of_le_length (by simp; omega)]
  · rw [List.drop_eq_nil_of_le (by simp; omega), List.drop_eq_nil_of_le (by omega)]
theorem tagN_zeros (key : Nat) (l : List UInt8) (y z : Nat) (hz : l.length % 8 + z ≤ 8) (hp : 0 < l.length % 8) (hyz : y < z) (h64 : l.length + z < 18446744073709551616) :
    tagN key (l ++ List.replicate z 0) ≠ tagN key (l ++ List.replicate y 0) := by
  intro e
  unfold tagN at e
  have e1 := mixN_inj _ _ (xor_lt _ _ (regN_lt _ _ _) (by simpa using h64)) (xor_lt _ _ (regN_lt _ _ _) (by simp; omega)) e
  rw [regN_same key (l ++ List.replicate z 0) (l ++ List.replicate y 0) _ (fun i _ => by rw [blkN_zeros l z i hz hp, blkN_zeros l y i (by omega) hp])] at e1
  rw [show ((l ++ List.replicate z (0 : UInt8)).length + 7) / 8 = ((l ++ List.replicate y (0 : UInt8)).length + 7) / 8 by simp; omega] at e1
  have e2 := xor_left_inj _ _ _ e1
  simp at e2
  omega
end Go.Proofs.Ytdmkkpnjakdnnaa
