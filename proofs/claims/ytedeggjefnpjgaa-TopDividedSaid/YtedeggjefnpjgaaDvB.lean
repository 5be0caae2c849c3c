/-
  The plain law of chapter 3: varints, texts, lists, checksums and frames as functions of lists of bytes. No program is in sight.
  The plain law of chapter 3, on reading back what was put, on forms, and on damage.
  Get of chapter 3 and of its reference, walked.
  Put of chapter 3 and of its reference, Clone and the comparison of bytes, walked.
-/
import Derived.Test.YtedeggjefnpjgaaRows
import Derived.Test.YtedeggjefnpjgaaBase
import Derived.Laws.Bits128
import Derived.Laws.BitsAllLaws
import Derived.Laws.BytesArg
namespace Go.Proofs.Ytedeggjefnpjgaa

section
/-! ### varints -/
def putF : Nat → Nat → List UInt8
  | 0, n => [UInt8.ofNat n]
  | f + 1, n => if n < 128 then [UInt8.ofNat n] else UInt8.ofNat (n % 128 + 128) :: putF f (n / 128)
def putN (n : Nat) : List UInt8 := putF 9 n
theorem putF_low (f n : Nat) (h : n < 128) : putF f n = [UInt8.ofNat n] := by
  cases f with
  | zero => rfl
  | succ f => rw [putF, if_pos h]
theorem div128 {n f : Nat} (h : n < 128 ^ (f + 1 + 1)) : n / 128 < 128 ^ (f + 1) := by
  rw [Nat.pow_succ] at h
  exact Nat.div_lt_of_lt_mul (by omega)
theorem putF_fuel (f : Nat) : ∀ (g n : Nat), n < 128 ^ (f + 1) → n < 128 ^ (g + 1) → putF f n = putF g n := by
  induction f with
  | zero => intro g n h _; rw [putF_low _ _ (by omega), putF_low _ _ (by omega)]
  | succ f ih =>
    intro g n h h'
    by_cases hn : n < 128
    · rw [putF_low _ _ hn, putF_low _ _ hn]
    · cases g with
      | zero => omega
      | succ g => rw [putF, putF, if_neg hn, if_neg hn, ih g (n / 128) (div128 h) (div128 h')]
theorem putN_low (n : Nat) (h : n < 128) : putN n = [UInt8.ofNat n] := putF_low _ _ h
theorem putN_step (n : Nat) (h : ¬ n < 128) (hn : n < 9223372036854775808) : putN n = UInt8.ofNat (n % 128 + 128) :: putN (n / 128) := by
  show putF 9 n = _ :: putF 9 _
  rw [show putF 9 n = if n < 128 then [UInt8.ofNat n] else UInt8.ofNat (n % 128 + 128) :: putF 8 (n / 128) from rfl, if_neg h, putF_fuel 8 9 (n / 128)]
  · show _ < 9223372036854775808; omega
  · show _ < 1180591620717411303424; omega
theorem putF_len (f : Nat) : ∀ n, 1 ≤ (putF f n).length ∧ (putF f n).length ≤ f + 1 := by
  induction f with
  | zero => intro n; simp [putF]
  | succ f ih =>
    intro n
    rw [putF]
    split
    · simp
    · have := ih (n / 128); simp; omega
theorem putN_len (n : Nat) : 1 ≤ (putN n).length ∧ (putN n).length ≤ 10 := putF_len 9 n
theorem putN_len9 (n : Nat) (hn : n < 9223372036854775808) : (putN n).length ≤ 9 := by
  have e : putN n = putF 8 n := putF_fuel 9 8 n (Nat.lt_of_lt_of_le hn (by decide)) hn
  rw [e]
  exact (putF_len 8 n).2

def valN : List UInt8 → Nat
  | [] => 0
  | c :: t => c.toNat % 128 + 128 * valN t
theorem valN_append (a b : List UInt8) : valN (a ++ b) = valN a + 128 ^ a.length * valN b := by
  induction a with
  | nil => simp [valN]
  | cons c t ih =>
    rw [List.cons_append, valN, valN, ih, List.length_cons, Nat.pow_succ, Nat.mul_add, Nat.mul_comm (128 ^ t.length) 128, Nat.mul_assoc]
    omega
theorem valN_lt (l : List UInt8) : valN l < 128 ^ l.length := by
  induction l with
  | nil => simp [valN]
  | cons c t ih =>
    rw [valN, List.length_cons, Nat.pow_succ]
    have := Nat.mod_lt c.toNat (show 0 < 128 by omega)
    omega

/-- what Get answers where the first i bytes have the highest bit set; f: how many bytes may still be looked at -/
def getF (l : List UInt8) : Nat → Nat → Nat × Nat × Nat
  | 0, _ => (0, 0, 4)
  | f + 1, i => if l.length ≤ i then (0, 0, 5) else if 128 ≤ (l.getD i 0).toNat then getF l f (i + 1) else if 0 < i ∧ (l.getD i 0).toNat = 0 then (0, 0, 3) else (valN (l.take (i + 1)), i + 1, 0)
def getN (l : List UInt8) : Nat × Nat × Nat := getF l 9 0

theorem ofNat_toNat (n : Nat) (h : n < 256) : (UInt8.ofNat n).toNat = n := UInt8.toNat_ofNat_of_lt' h
theorem toNat_ext {a b : UInt8} (h : a.toNat = b.toNat) : a = b := UInt8.toNat_inj.1 h
theorem ofNat_of (c : UInt8) : UInt8.ofNat c.toNat = c := toNat_ext (ofNat_toNat _ (UInt8.toNat_lt c))
theorem getD_mid (a : List UInt8) (x : UInt8) (b : List UInt8) : (a ++ x :: b).getD a.length 0 = x := by simp
theorem take_mid (a : List UInt8) (x : UInt8) (b : List UInt8) : (a ++ x :: b).take (a.length + 1) = a ++ [x] := by
  rw [show a ++ x :: b = (a ++ [x]) ++ b by simp, List.take_left' (by simp)]

theorem valN_putF (f : Nat) : ∀ n, n < 128 ^ (f + 1) → valN (putF f n) = n := by
  induction f with
  | zero =>
    intro n h
    simp only [putF, valN]
    rw [ofNat_toNat _ (by omega)]
    omega
  | succ f ih =>
    intro n h
    rw [putF]
    split
    · rename_i h1
      simp only [valN]
      rw [ofNat_toNat _ (by omega)]
      omega
    · simp only [valN]
      rw [ofNat_toNat _ (by omega), ih _ (div128 h)]
      omega
theorem valN_putN (n : Nat) (hn : n < 9223372036854775808) : valN (putN n) = n := valN_putF 9 n (Nat.lt_of_lt_of_le hn (by decide))

/-- what was put is read -/
theorem getF_put (f : Nat) : ∀ (pre rest : List UInt8) (n : Nat), n < 128 ^ (f + 1) → (pre = [] ∨ n ≠ 0) →
    getF (pre ++ (putF f n ++ rest)) (f + 1) pre.length = (valN (pre ++ putF f n), pre.length + (putF f n).length, 0) := by
  induction f with
  | zero =>
    intro pre rest n h h0
    simp only [putF, List.singleton_append]
    rw [getF, if_neg (by simp), getD_mid, if_neg (by rw [ofNat_toNat _ (by omega)]; omega), if_neg, take_mid]
    · simp
    · rw [ofNat_toNat _ (by omega)]
      rintro ⟨h1, h2⟩
      rcases h0 with rfl | h0
      · simp at h1
      · exact h0 h2
  | succ f ih =>
    intro pre rest n h h0
    by_cases hn : n < 128
    · rw [putF_low _ _ hn]
      simp only [List.singleton_append]
      rw [getF, if_neg (by simp), getD_mid, if_neg (by rw [ofNat_toNat _ (by omega)]; omega), if_neg, take_mid]
      · simp
      · rw [ofNat_toNat _ (by omega)]
        rintro ⟨h1, h2⟩
        rcases h0 with rfl | h0
        · simp at h1
        · exact h0 h2
    · rw [putF, if_neg hn, List.cons_append, getF, if_neg (by simp), getD_mid, if_pos (by rw [ofNat_toNat _ (by omega)]; omega)]
      have := ih (pre ++ [UInt8.ofNat (n % 128 + 128)]) rest (n / 128) (div128 h) (.inr (by omega))
      simp only [List.append_assoc, List.singleton_append, List.length_append, List.length_singleton] at this
      rw [this, List.length_cons]
      congr 2
      omega
theorem getN_put (n : Nat) (hn : n < 9223372036854775808) (rest : List UInt8) : getN (putN n ++ rest) = (n, (putN n).length, 0) := by
  have h := getF_put 8 [] rest n hn (.inl rfl)
  have e : putN n = putF 8 n := putF_fuel 9 8 n (Nat.lt_of_lt_of_le hn (by decide)) hn
  rw [e]
  simp only [List.nil_append, List.length_nil, Nat.zero_add] at h
  rw [getN, h, valN_putF 8 n hn]

/-- what is read was put in the only possible form -/
theorem getF_form (f : Nat) : ∀ (pre suf : List UInt8) (n k e : Nat), (∀ c ∈ pre, 128 ≤ c.toNat) → getF (pre ++ suf) f pre.length = (n, k, e) →
    (e = 0 ∧ ∃ a x rest, pre ++ suf = a ++ x :: rest ∧ (∀ c ∈ a, 128 ≤ c.toNat) ∧ x.toNat < 128 ∧ (a = [] ∨ x.toNat ≠ 0) ∧ n = valN (a ++ [x]) ∧ k = a.length + 1 ∧ a.length < pre.length + f) ∨ (e ≠ 0 ∧ n = 0 ∧ k = 0 ∧ e ≤ 5) := by
  induction f with
  | zero =>
    intro pre suf n k e _ h
    simp only [getF, Prod.mk.injEq] at h
    right
    omega
  | succ f ih =>
    intro pre suf n k e hp h
    rw [getF] at h
    cases suf with
    | nil =>
      rw [if_pos (by simp)] at h
      simp only [Prod.mk.injEq] at h
      right
      omega
    | cons x t =>
      rw [if_neg (by simp), getD_mid, take_mid] at h
      by_cases hx : 128 ≤ x.toNat
      · rw [if_pos hx] at h
        have := ih (pre ++ [x]) t n k e (by
          intro c hc
          rcases List.mem_append.1 hc with hc | hc
          · exact hp c hc
          · simp at hc; subst hc; exact hx) (by simpa using h)
        rcases this with ⟨h0, a, y, rest, h1, h2, h3, h4, h5, h6, h7⟩ | this
        · left
          exact ⟨h0, a, y, rest, by simpa using h1, h2, h3, h4, h5, h6, by simp at h7; omega⟩
        · exact .inr this
      · rw [if_neg hx] at h
        split at h
        · simp only [Prod.mk.injEq] at h
          right
          omega
        · rename_i h1
          simp only [Prod.mk.injEq] at h
          obtain ⟨rfl, rfl, rfl⟩ := h
          left
          refine ⟨rfl, pre, x, t, rfl, hp, by omega, ?_, rfl, rfl, by omega⟩
          cases pre with
          | nil => exact .inl rfl
          | cons c p =>
            right
            intro e
            exact h1 ⟨by simp, e⟩
theorem putF_canon (a : List UInt8) : ∀ (f : Nat) (x : UInt8), (∀ c ∈ a, 128 ≤ c.toNat) → x.toNat < 128 → (a = [] ∨ x.toNat ≠ 0) → a.length ≤ f → putF f (valN (a ++ [x])) = a ++ [x] := by
  induction a with
  | nil =>
    intro f x _ hx _ _
    simp only [List.nil_append, valN]
    rw [putF_low _ _ (by omega)]
    congr 1
    apply toNat_ext
    rw [ofNat_toNat _ (by omega)]
    omega
  | cons c a ih =>
    intro f x ha hx h0 hf
    cases f with
    | zero => simp at hf
    | succ f =>
      have hx0 : x.toNat ≠ 0 := by
        rcases h0 with h | h
        · cases h
        · exact h
      have hc := ha c (by simp)
      have hc2 := UInt8.toNat_lt c
      have hpos : 0 < valN (a ++ [x]) := by
        rw [valN_append]
        have : 0 < 128 ^ a.length * valN [x] := Nat.mul_pos (Nat.pow_pos (by omega)) (by simp only [valN]; omega)
        omega
      have := ih f x (fun d hd => ha d (by simp [hd])) hx (.inr hx0) (by simpa using hf)
      rw [List.cons_append, valN, putF, if_neg (by omega), show (c.toNat % 128 + 128 * valN (a ++ [x])) / 128 = valN (a ++ [x]) by omega, this]
      congr 1
      apply toNat_ext
      rw [ofNat_toNat _ (by omega)]
      omega
/-- the three ways of Get -/
theorem getN_cases (l : List UInt8) : (∃ n k, getN l = (n, k, 0) ∧ 1 ≤ k ∧ k ≤ 9 ∧ k ≤ l.length ∧ n < 9223372036854775808 ∧ putN n = l.take k ∧ n = valN (l.take k)) ∨ ∃ e, getN l = (0, 0, e) ∧ e ≠ 0 ∧ e ≤ 5 := by
  have h := getF_form 9 [] l (getN l).1 (getN l).2.1 (getN l).2.2 (by simp) rfl
  generalize hg : getN l = g at h
  obtain ⟨n, k, e⟩ := g
  simp only [List.nil_append, List.length_nil, Nat.zero_add] at h
  rcases h with ⟨rfl, a, x, rest, h1, h2, h3, h4, rfl, rfl, h7⟩ | ⟨h1, rfl, rfl, h2⟩
  · left
    have ht : l.take (a.length + 1) = a ++ [x] := by rw [h1, take_mid]
    have hlt := valN_lt (a ++ [x])
    have h9 : 128 ^ (a ++ [x]).length ≤ 9223372036854775808 := Nat.le_trans (Nat.pow_le_pow_right (by omega) (show _ ≤ 9 by simp; omega)) (by decide)
    refine ⟨_, _, rfl, by omega, by omega, by rw [h1]; simp, by omega, ?_, by rw [ht]⟩
    rw [ht]
    exact putF_canon a 9 x h2 h3 h4 (by omega)
  · right
    exact ⟨e, rfl, h1, h2⟩

/-! ### texts and lists -/
def textP (s : List UInt8) : List UInt8 := putN s.length ++ s
def textG (l : List UInt8) : List UInt8 × Nat × Nat :=
  if (getN l).2.2 ≠ 0 then ([], 0, (getN l).2.2) else if 2000 < (getN l).1 then ([], 0, 4) else if l.length < (getN l).2.1 + (getN l).1 then ([], 0, 5) else
    ((l.drop (getN l).2.1).take (getN l).1, (getN l).2.1 + (getN l).1, 0)
/-- the numbers of a list, as varints; a negative one counts as 0 -/
def putsN (l : List Int) : List UInt8 := l.flatMap fun n => putN n.toNat
def listP (l : List Int) : List UInt8 := putN l.length ++ putsN l
theorem putsN_append (a b : List Int) : putsN (a ++ b) = putsN a ++ putsN b := by simp [putsN]
theorem putsN_len (l : List Int) : (putsN l).length ≤ 10 * l.length := by
  induction l with
  | nil => simp [putsN]
  | cons x l ih =>
    have := putN_len x.toNat
    simp only [putsN, List.flatMap_cons, List.length_append, List.length_cons] at ih ⊢
    omega
/-- c numbers of l from index at on, behind those that were read already -/
def numsG (l : List UInt8) : Nat → Nat → List Nat → List Nat × Nat × Nat
  | 0, at_, out => (out, at_, 0)
  | c + 1, at_, out => if (getN (l.drop at_)).2.2 ≠ 0 then ([], 0, (getN (l.drop at_)).2.2) else numsG l c (at_ + (getN (l.drop at_)).2.1) (out ++ [(getN (l.drop at_)).1])
def listG (l : List UInt8) : List Nat × Nat × Nat :=
  if (getN l).2.2 ≠ 0 then ([], 0, (getN l).2.2) else if 10000 < (getN l).1 then ([], 0, 4) else numsG l (getN l).1 (getN l).2.1 []

/-! ### checksums and frames -/
def bitN (r : Nat) : Nat := if r % 2 = 1 then (r / 2) ^^^ 2197175160 else r / 2
def bitI : Nat → Nat → Nat
  | 0, r => r
  | k + 1, r => bitN (bitI k r)
def crcN (l : List UInt8) : Nat := l.foldl (fun r c => bitI 8 (r ^^^ c.toNat)) 4294967295
def sumN (l : List UInt8) : Nat := crcN l ^^^ 4294967295
def be4 (s : Nat) : List UInt8 := [UInt8.ofNat (s / 16777216), UInt8.ofNat (s / 65536), UInt8.ofNat (s / 256), UInt8.ofNat s]
def de4 (l : List UInt8) : Nat := l.foldl (fun s c => s * 256 + c.toNat) 0
def frameN (b : List UInt8) : List UInt8 := putN b.length ++ b ++ be4 (sumN b)
def unfG (l : List UInt8) : List UInt8 × Nat × Nat :=
  if (getN l).2.2 ≠ 0 then ([], 0, (getN l).2.2) else if 65536 < (getN l).1 then ([], 0, 4) else if l.length < (getN l).2.1 + (getN l).1 + 4 then ([], 0, 5) else
    if de4 ((l.drop ((getN l).2.1 + (getN l).1)).take 4) ≠ sumN ((l.drop (getN l).2.1).take (getN l).1) then ([], 0, 6) else
    ((l.drop (getN l).2.1).take (getN l).1, (getN l).2.1 + (getN l).1 + 4, 0)

theorem xor32 (a b : Nat) (ha : a < 4294967296) (hb : b < 4294967296) : a ^^^ b < 4294967296 := Nat.xor_lt_two_pow (n := 32) ha hb
theorem bitN_lt (r : Nat) (h : r < 4294967296) : bitN r < 4294967296 := by
  unfold bitN
  split
  · exact xor32 _ _ (by omega) (by omega)
  · omega
theorem bitI_lt (k r : Nat) (h : r < 4294967296) : bitI k r < 4294967296 := by
  induction k with
  | zero => exact h
  | succ k ih => exact bitN_lt _ ih
theorem bitI_add (k m r : Nat) : bitI (k + m) r = bitI k (bitI m r) := by
  induction k with
  | zero => simp [bitI]
  | succ k ih => rw [Nat.succ_add, bitI, ih, bitI]
theorem xor_half (a b : Nat) : (a ^^^ b) / 2 = a / 2 ^^^ b / 2 := by
  have := Nat.xor_div_two_pow (a := a) (b := b) (n := 1)
  simpa using this
theorem xor_odd (a b : Nat) : (a ^^^ b) % 2 = (a % 2) ^^^ (b % 2) := by
  have := Nat.xor_mod_two_pow (a := a) (b := b) (n := 1)
  simpa using this
theorem bitN_xor (a b : Nat) : bitN (a ^^^ b) = bitN a ^^^ bitN b := by
  unfold bitN
  rw [xor_odd, xor_half]
  have ha : a % 2 = 0 ∨ a % 2 = 1 := by omega
  have hb : b % 2 = 0 ∨ b % 2 = 1 := by omega
  rcases ha with ha | ha <;> rcases hb with hb | hb <;> rw [ha, hb] <;> simp only [Nat.xor_self, Nat.zero_xor, Nat.xor_zero, if_true, if_false, Nat.zero_ne_one]
  · rw [Nat.xor_assoc]
  · rw [Nat.xor_assoc, Nat.xor_comm (b / 2), ← Nat.xor_assoc]
  · rw [Nat.xor_assoc, ← Nat.xor_assoc 2197175160, Nat.xor_comm 2197175160 (b / 2), Nat.xor_assoc (b / 2), Nat.xor_self, Nat.xor_zero]
theorem bitI_xor (k a b : Nat) : bitI k (a ^^^ b) = bitI k a ^^^ bitI k b := by
  induction k with
  | zero => rfl
  | succ k ih => rw [bitI, ih, bitN_xor, bitI, bitI]
theorem bitN_double (q : Nat) : bitN (2 * q) = q := by
  unfold bitN
  rw [if_neg (by omega)]
  omega
theorem bitI4_16 (q : Nat) : bitI 4 (16 * q) = q := by
  simp only [bitI]
  rw [show 16 * q = 2 * (2 * (2 * (2 * q))) by omega, bitN_double, bitN_double, bitN_double, bitN_double]
theorem xor_split (q s : Nat) (h : s < 16) : (16 * q) ^^^ s = 16 * q + s := by
  have h1 := Nat.xor_div_two_pow (a := 16 * q) (b := s) (n := 4)
  have h2 := Nat.xor_mod_two_pow (a := 16 * q) (b := s) (n := 4)
  simp only [show (2 : Nat) ^ 4 = 16 from rfl] at h1 h2
  rw [show 16 * q / 16 = q by omega, Nat.div_eq_of_lt h, Nat.xor_zero] at h1
  rw [show 16 * q % 16 = 0 by omega, Nat.mod_eq_of_lt h, Nat.zero_xor] at h2
  omega
/-- four bits at once -/
theorem nib (r : Nat) : (r / 16) ^^^ bitI 4 (r % 16) = bitI 4 r := by
  have e : r = (16 * (r / 16)) ^^^ (r % 16) := by rw [xor_split _ _ (Nat.mod_lt _ (by omega))]; omega
  conv => rhs; rw [e, bitI_xor, bitI4_16]
theorem crcN_lt (l : List UInt8) : crcN l < 4294967296 := by
  unfold crcN
  generalize h : (4294967295 : Nat) = r
  have hr : r < 4294967296 := by omega
  clear h
  induction l generalizing r with
  | nil => exact hr
  | cons c t ih => exact ih _ (bitI_lt _ _ (xor32 _ _ hr (by have := UInt8.toNat_lt c; omega)))
theorem sumN_lt (l : List UInt8) : sumN l < 4294967296 := xor32 _ _ (crcN_lt l) (by omega)
theorem crcN_snoc (l : List UInt8) (c : UInt8) : crcN (l ++ [c]) = bitI 8 (crcN l ^^^ c.toNat) := by
  unfold crcN
  rw [List.foldl_append]
  rfl
theorem crcN_nib (l : List UInt8) (c : UInt8) : ∀ r1 r2, r1 = crcN l ^^^ c.toNat → r2 = (r1 / 16) ^^^ bitI 4 (r1 % 16) → (r2 / 16) ^^^ bitI 4 (r2 % 16) = crcN (l ++ [c]) := by
  intro r1 r2 h1 h2
  rw [nib] at h2 ⊢
  rw [h2, h1, crcN_snoc, ← bitI_add]

/-! a change is found -/
theorem xorL (a x y : Nat) (h : a ^^^ x = a ^^^ y) : x = y := by
  have e : ∀ z, a ^^^ (a ^^^ z) = z := fun z => by rw [← Nat.xor_assoc, Nat.xor_self, Nat.zero_xor]
  rw [← e x, h, e y]
theorem xorR (a x y : Nat) (h : x ^^^ a = y ^^^ a) : x = y := xorL a x y (by rw [Nat.xor_comm a x, Nat.xor_comm a y, h])
theorem bitN_inj (a b : Nat) (ha : a < 4294967296) (hb : b < 4294967296) (h : bitN a = bitN b) : a = b := by
  unfold bitN at h
  have hlt : ∀ x y : Nat, x < 2147483648 → y < 2147483648 → x ^^^ y < 2147483648 := fun x y hx hy => Nat.xor_lt_two_pow (n := 31) hx hy
  have hne : ∀ x y : Nat, x < 2147483648 → y < 2147483648 → x ^^^ 2197175160 ≠ y := by
    intro x y hx hy e
    have h1 : x ^^^ y = 2197175160 := by rw [← e, ← Nat.xor_assoc, Nat.xor_self, Nat.zero_xor]
    have := hlt x y hx hy
    omega
  split at h <;> split at h
  · have := xorR _ _ _ h
    omega
  · exact (hne _ _ (by omega) (by omega) h).elim
  · exact (hne _ _ (by omega) (by omega) h.symm).elim
  · omega
theorem bitI_inj (k a b : Nat) (ha : a < 4294967296) (hb : b < 4294967296) (h : bitI k a = bitI k b) : a = b := by
  induction k with
  | zero => exact h
  | succ k ih => exact ih (bitN_inj _ _ (bitI_lt _ _ ha) (bitI_lt _ _ hb) h)
theorem crc_foldl_inj (l : List UInt8) : ∀ (r s : Nat), r < 4294967296 → s < 4294967296 → l.foldl (fun r c => bitI 8 (r ^^^ c.toNat)) r = l.foldl (fun r c => bitI 8 (r ^^^ c.toNat)) s → r = s := by
  induction l with
  | nil => intro r s _ _ h; exact h
  | cons c t ih =>
    intro r s hr hs h
    have hc : c.toNat < 4294967296 := by have := UInt8.toNat_lt c; omega
    exact xorR _ _ _ (bitI_inj 8 _ _ (xor32 _ _ hr hc) (xor32 _ _ hs hc) (ih _ _ (bitI_lt _ _ (xor32 _ _ hr hc)) (bitI_lt _ _ (xor32 _ _ hs hc)) h))
theorem sumN_change (a b : List UInt8) (x y : UInt8) (h : sumN (a ++ x :: b) = sumN (a ++ y :: b)) : x = y := by
  have h1 := xorR _ _ _ h
  unfold crcN at h1
  rw [List.foldl_append, List.foldl_append, List.foldl_cons, List.foldl_cons] at h1
  have hx : x.toNat < 4294967296 := by have := UInt8.toNat_lt x; omega
  have hy : y.toNat < 4294967296 := by have := UInt8.toNat_lt y; omega
  have hr := crcN_lt a
  unfold crcN at hr
  have h2 := crc_foldl_inj b _ _ (bitI_lt _ _ (xor32 _ _ hr hx)) (bitI_lt _ _ (xor32 _ _ hr hy)) h1
  exact toNat_ext (xorL _ _ _ (bitI_inj 8 _ _ (xor32 _ _ hr hx) (xor32 _ _ hr hy) h2))

theorem be4_len (s : Nat) : (be4 s).length = 4 := rfl
theorem de4_be4 (s : Nat) (h : s < 4294967296) : de4 (be4 s) = s := by
  simp only [de4, be4, List.foldl_cons, List.foldl_nil, UInt8.toNat_ofNat']
  omega
theorem de4_inj (a b c d a' b' c' d' : UInt8) (h : de4 [a, b, c, d] = de4 [a', b', c', d']) : [a, b, c, d] = [a', b', c', d'] := by
  simp only [de4, List.foldl_cons, List.foldl_nil] at h
  have ha := UInt8.toNat_lt a
  have hb := UInt8.toNat_lt b
  have hc := UInt8.toNat_lt c
  have hd := UInt8.toNat_lt d
  have ha' := UInt8.toNat_lt a'
  have hb' := UInt8.toNat_lt b'
  have hc' := UInt8.toNat_lt c'
  have hd' := UInt8.toNat_lt d'
  rw [toNat_ext (show a.toNat = a'.toNat by omega), toNat_ext (show b.toNat = b'.toNat by omega), toNat_ext (show c.toNat = c'.toNat by omega), toNat_ext (show d.toNat = d'.toNat by omega)]
theorem four (l : List UInt8) (h : l.length = 4) : ∃ a b c d, l = [a, b, c, d] := by
  match l, h with
  | [a, b, c, d], _ => exact ⟨a, b, c, d, rfl⟩
theorem be4_de4 (l : List UInt8) (h : l.length = 4) (s : Nat) (hs : s < 4294967296) : de4 l = s ↔ l = be4 s := by
  constructor
  · intro e
    obtain ⟨a, b, c, d, rfl⟩ := four l h
    exact de4_inj _ _ _ _ _ _ _ _ (by rw [e]; exact (de4_be4 s hs).symm)
  · rintro rfl
    exact de4_be4 s hs
end

section
def toI (l : List Nat) : List Int := l.map fun n : Nat => (n : Int)
theorem take_two (l : List UInt8) (a b : Nat) : l.take (a + b) = l.take a ++ (l.drop a).take b := List.take_add

/-! ### forms -/
theorem textG_form {l t : List UInt8} {k : Nat} (h : textG l = (t, k, 0)) : 1 ≤ k ∧ k ≤ l.length ∧ t.length ≤ 2000 ∧ textP t = l.take k := by
  unfold textG at h
  rcases getN_cases l with ⟨N, K, hg, hk1, hk9, hkl, hN, hp, _⟩ | ⟨E, hg, hE, _⟩
  · rw [hg] at h
    simp only [ne_eq, not_true_eq_false, if_false] at h
    split at h
    · simp at h
    · split at h
      · simp at h
      · simp only [Prod.mk.injEq] at h
        obtain ⟨rfl, rfl, _⟩ := h
        have hl : ((l.drop K).take N).length = N := by rw [List.length_take, List.length_drop]; omega
        refine ⟨by omega, by omega, by omega, ?_⟩
        rw [textP, hl, hp, take_two]
  · rw [hg, if_pos hE] at h
    simp only [Prod.mk.injEq] at h
    exact (hE h.2.2).elim
theorem numsG_form (l : List UInt8) : ∀ (c at_ : Nat) (out t : List Nat) (k : Nat), at_ ≤ l.length → numsG l c at_ out = (t, k, 0) →
    ∃ more, t = out ++ more ∧ more.length = c ∧ at_ ≤ k ∧ k ≤ l.length ∧ (∀ x ∈ more, x < 9223372036854775808) ∧ putsN (toI more) = (l.drop at_).take (k - at_) := by
  intro c
  induction c with
  | zero =>
    intro at_ out t k hl h
    simp only [numsG, Prod.mk.injEq] at h
    obtain ⟨rfl, rfl, _⟩ := h
    exact ⟨[], by simp, rfl, Nat.le_refl _, hl, by simp, by simp [toI, putsN]⟩
  | succ c ih =>
    intro at_ out t k hl h
    rw [numsG] at h
    rcases getN_cases (l.drop at_) with ⟨N, K, hg, hk1, hk9, hkl, hN, hp, _⟩ | ⟨E, hg, hE, _⟩
    · rw [hg] at h
      simp only [ne_eq, not_true_eq_false, if_false] at h
      rw [List.length_drop] at hkl
      obtain ⟨more, rfl, hml, h1, h2, h3, h4⟩ := ih (at_ + K) (out ++ [N]) t k (by omega) h
      refine ⟨N :: more, by simp, by simp [hml], by omega, h2, ?_, ?_⟩
      · intro x hx
        rcases List.mem_cons.1 hx with rfl | hx
        · exact hN
        · exact h3 x hx
      · have e : putsN (toI (N :: more)) = putN N ++ putsN (toI more) := by simp [toI, putsN]
        rw [e, hp, h4, show k - at_ = K + (k - (at_ + K)) by omega, take_two, List.drop_drop]
    · rw [hg, if_pos hE] at h
      simp only [Prod.mk.injEq] at h
      exact (hE h.2.2).elim
theorem listG_form {l : List UInt8} {t : List Nat} {k : Nat} (h : listG l = (t, k, 0)) : 1 ≤ k ∧ k ≤ l.length ∧ t.length ≤ 10000 ∧ (∀ x ∈ t, x < 9223372036854775808) ∧ listP (toI t) = l.take k := by
  unfold listG at h
  rcases getN_cases l with ⟨N, K, hg, hk1, hk9, hkl, hN, hp, _⟩ | ⟨E, hg, hE, _⟩
  · rw [hg] at h
    simp only [ne_eq, not_true_eq_false, if_false] at h
    split at h
    · simp at h
    · obtain ⟨more, ht, hml, h1, h2, h3, h4⟩ := numsG_form l N K [] t k hkl h
      obtain rfl : t = more := by simpa using ht
      refine ⟨by omega, h2, by omega, h3, ?_⟩
      rw [listP, h4, show (toI t).length = N by simp [toI, hml], hp]
      have := take_two l K (k - K)
      rw [← this]
      congr 1
      omega
  · rw [hg, if_pos hE] at h
    simp only [Prod.mk.injEq] at h
    exact (hE h.2.2).elim
theorem frame_eq' (l bd tl : List UInt8) (N K : Nat) (hp : putN N = l.take K) (hb : (l.drop K).take N = bd) (ht : (l.drop (K + N)).take 4 = tl) (hl : K + N + 4 ≤ l.length) :
    frameN bd = l.take (K + N + 4) ↔ de4 tl = sumN bd := by
  have hbl : bd.length = N := by rw [← hb, List.length_take, List.length_drop]; omega
  have htl : tl.length = 4 := by rw [← ht, List.length_take, List.length_drop]; omega
  have e : l.take (K + N + 4) = putN N ++ bd ++ tl := by
    rw [List.take_add, List.take_add, hp, hb, ht]
  rw [e, frameN, hbl, be4_de4 tl htl _ (sumN_lt bd)]
  constructor
  · intro h
    exact (List.append_cancel_left h).symm
  · intro h
    rw [h]
theorem unfG_form {l t : List UInt8} {k : Nat} (h : unfG l = (t, k, 0)) : 5 ≤ k ∧ k ≤ l.length ∧ t.length ≤ 65536 ∧ frameN t = l.take k := by
  unfold unfG at h
  rcases getN_cases l with ⟨N, K, hg, hk1, hk9, hkl, hN, hp, _⟩ | ⟨E, hg, hE, _⟩
  · rw [hg] at h
    simp only [ne_eq, not_true_eq_false, if_false] at h
    split at h
    · simp at h
    · split at h
      · simp at h
      · split at h
        · simp at h
        · rename_i h1 h2 h3
          simp only [Prod.mk.injEq] at h
          obtain ⟨rfl, rfl, _⟩ := h
          refine ⟨by omega, by omega, by rw [List.length_take]; omega, ?_⟩
          exact (frame_eq' l _ _ N K hp rfl rfl (by omega)).2 (by simpa using h3)
  · rw [hg, if_pos hE] at h
    simp only [Prod.mk.injEq] at h
    exact (hE h.2.2).elim

/-! ### what was put is read back -/
theorem textG_back (s rest : List UInt8) (hs : s.length ≤ 2000) : textG (textP s ++ rest) = (s, (textP s).length, 0) := by
  have hg : getN (textP s ++ rest) = (s.length, (putN s.length).length, 0) := by
    rw [textP, List.append_assoc]
    exact getN_put _ (by omega) _
  unfold textG
  rw [hg]
  simp only [ne_eq, not_true_eq_false, if_false]
  rw [if_neg (by omega), if_neg (by simp [textP])]
  congr 1
  · rw [textP, List.append_assoc, List.drop_left' rfl, List.take_left' rfl]
  · simp [textP]
theorem numsG_back (pre : List UInt8) (l : List Nat) (hl : ∀ x ∈ l, x < 9223372036854775808) (rest : List UInt8) : ∀ (out : List Nat),
    numsG (pre ++ (putsN (toI l) ++ rest)) l.length pre.length out = (out ++ l, pre.length + (putsN (toI l)).length, 0) := by
  induction l generalizing pre with
  | nil => intro out; simp [numsG, toI, putsN]
  | cons x l ih =>
    intro out
    have e : putsN (toI (x :: l)) = putN x ++ putsN (toI l) := by simp [toI, putsN]
    have hg : getN ((pre ++ (putsN (toI (x :: l)) ++ rest)).drop pre.length) = (x, (putN x).length, 0) := by
      rw [List.drop_left' rfl, e, List.append_assoc]
      exact getN_put x (hl x (by simp)) _
    rw [List.length_cons, numsG, hg]
    simp only [ne_eq, not_true_eq_false, if_false]
    have h := ih (pre ++ putN x) (fun y hy => hl y (by simp [hy])) (out ++ [x])
    rw [List.length_append] at h
    rw [e]
    simp only [List.append_assoc] at h ⊢
    rw [h]
    simp [Nat.add_assoc]
theorem listG_back (l : List Nat) (hl : ∀ x ∈ l, x < 9223372036854775808) (h300 : l.length ≤ 300) (rest : List UInt8) : listG (listP (toI l) ++ rest) = (l, (listP (toI l)).length, 0) := by
  have hlen : (toI l).length = l.length := by simp [toI]
  have hg : getN (listP (toI l) ++ rest) = (l.length, (putN l.length).length, 0) := by
    rw [listP, hlen, List.append_assoc]
    exact getN_put _ (by omega) _
  unfold listG
  rw [hg]
  simp only [ne_eq, not_true_eq_false, if_false]
  rw [if_neg (by omega)]
  have h := numsG_back (putN l.length) l hl rest []
  rw [listP, hlen, List.append_assoc, h]
  simp
theorem unfG_of (n : Nat) (body tl rest : List UInt8) (hn : body.length = n) (h6 : n ≤ 65536) (ht : tl.length = 4) :
    unfG (putN n ++ body ++ tl ++ rest) = if de4 tl ≠ sumN body then ([], 0, 6) else (body, (putN n ++ body ++ tl).length, 0) := by
  have hg : getN (putN n ++ body ++ tl ++ rest) = (n, (putN n).length, 0) := by
    rw [List.append_assoc, List.append_assoc]
    exact getN_put _ (by omega) _
  have e1 : (putN n ++ body ++ tl ++ rest).drop (putN n).length = body ++ (tl ++ rest) := by
    rw [List.append_assoc, List.append_assoc, List.drop_left' rfl]
  have e2 : (putN n ++ body ++ tl ++ rest).drop ((putN n).length + n) = tl ++ rest := by
    rw [← List.drop_drop, e1, List.drop_left' hn]
  unfold unfG
  rw [hg]
  simp only [ne_eq, not_true_eq_false, if_false]
  rw [if_neg (by omega), if_neg (by simp; omega), e1, e2, List.take_left' hn, List.take_left' ht]
  congr 2
  congr 1
  simp
  omega
theorem unfG_back (body rest : List UInt8) (h6 : body.length ≤ 65536) : unfG (frameN body ++ rest) = (body, (frameN body).length, 0) := by
  rw [frameN, unfG_of _ body (be4 (sumN body)) rest rfl h6 rfl, if_neg (by rw [de4_be4 _ (sumN_lt body)]; simp)]

/-! ### damage -/
theorem frame_damaged (body rest : List UInt8) (i : Nat) (x : UInt8) (h6 : body.length ≤ 65536) (hi : (putN body.length).length ≤ i) (hi2 : i < (frameN body).length) (hx : x ≠ (frameN body).getD i 0) :
    unfG ((frameN body).set i x ++ rest) = ([], 0, 6) := by
  obtain ⟨d, rfl⟩ : ∃ d, i = (putN body.length).length + d := ⟨i - (putN body.length).length, by omega⟩
  have hfl : (frameN body).length = (putN body.length).length + body.length + 4 := by simp [frameN, be4_len]; omega
  rcases Nat.lt_or_ge d body.length with hd | hd
  · have hset : (frameN body).set ((putN body.length).length + d) x = putN body.length ++ body.set d x ++ be4 (sumN body) := by
      rw [frameN, List.append_assoc, List.set_append_right _ _ (by omega), Nat.add_sub_cancel_left, List.set_append_left _ _ hd, List.append_assoc]
    have hget : (frameN body).getD ((putN body.length).length + d) 0 = body.getD d 0 := by
      rw [frameN, List.append_assoc, List.getD_eq_getElem?_getD, List.getElem?_append_right (by omega), Nat.add_sub_cancel_left, List.getElem?_append_left hd, List.getD_eq_getElem?_getD]
    rw [hset, unfG_of body.length (body.set d x) (be4 (sumN body)) rest (by simp) h6 rfl, if_pos]
    rw [de4_be4 _ (sumN_lt body)]
    intro e
    rw [hget] at hx
    have hb : body = body.take d ++ body.getD d 0 :: body.drop (d + 1) := by
      have e3 : body.getD d 0 = body[d] := by simp [List.getElem?_eq_getElem hd]
      rw [e3, List.getElem_cons_drop]
      simp
    have hb2 : body.set d x = body.take d ++ x :: body.drop (d + 1) := by
      rw [List.set_eq_take_append_cons_drop, if_pos hd]
    rw [hb2] at e
    have e2 : sumN (body.take d ++ body.getD d 0 :: body.drop (d + 1)) = sumN (body.take d ++ x :: body.drop (d + 1)) := by rw [← hb]; exact e
    exact hx (sumN_change _ _ _ _ e2).symm
  · obtain ⟨j, rfl⟩ : ∃ j, d = body.length + j := ⟨d - body.length, by omega⟩
    have hj : j < 4 := by omega
    have hset : (frameN body).set ((putN body.length).length + (body.length + j)) x = putN body.length ++ body ++ (be4 (sumN body)).set j x := by
      rw [frameN, ← Nat.add_assoc, List.set_append_right _ _ (by simp)]
      congr 2
      simp
    have hget : (frameN body).getD ((putN body.length).length + (body.length + j)) 0 = (be4 (sumN body)).getD j 0 := by
      have e1 : ((putN body.length) ++ body).length = (putN body.length).length + body.length := by simp
      rw [frameN, List.getD_eq_getElem?_getD, List.getElem?_append_right (by rw [e1]; omega), e1, show (putN body.length).length + (body.length + j) - ((putN body.length).length + body.length) = j by omega, List.getD_eq_getElem?_getD]
    rw [hset, unfG_of body.length body _ rest rfl h6 (by simp [be4_len]), if_pos ?_]
    intro e
    have h1 := (be4_de4 _ (by simp [be4_len]) _ (sumN_lt body)).1 e
    rw [hget] at hx
    apply hx
    have h2 : ((be4 (sumN body)).set j x).getD j 0 = x := by simp [be4_len, hj]
    rw [← h2, h1]
end

section
open Go.RowKit

theorem ret_b {a b : Bool} (h : a = b) : Ending.returned (.bool a) = .returned (.bool b) := by rw [h]
theorem ret_i {k : IntKind} {a b : Int} (h : a = b) : Ending.returned (.int k a) = .returned (.int k b) := by rw [h]
theorem ret_tri {a b c a' b' c' : Int} (h1 : a = a') (h2 : b = b') (h3 : c = c') : Ending.returned (.tuple #[.int .i64 a, .int .i64 b, .int .i64 c]) = .returned (.tuple #[.int .i64 a', .int .i64 b', .int .i64 c']) := by rw [h1, h2, h3]

theorem or_i64_nat (a b : Nat) (ha : a < 9223372036854775808) (hb : b < 9223372036854775808) : bits .or .i64 (a : Int) (b : Int) = ((a ||| b : Nat) : Int) := by
  have hlt : a ||| b < 9223372036854775808 := Nat.or_lt_two_pow (n := 63) ha hb
  have key : (BitVec.ofInt 64 (a : Int) ||| BitVec.ofInt 64 (b : Int)).toNat = a ||| b := by
    rw [BitVec.toNat_or, BitVec.toNat_ofInt, BitVec.toNat_ofInt]
    congr 1 <;> simp <;> omega
  show IntKind.i64.wrap ((BitVec.ofInt 64 (a : Int) ||| BitVec.ofInt 64 (b : Int)).toNat : Nat) = _
  rw [key, IntKind.wrap_i64]
  omega
theorem valN_next (l : List UInt8) (k : Nat) (h : k < l.length) : valN (l.take (k + 1)) = valN (l.take k) + 128 ^ k * ((l.getD k 0).toNat % 128) := by
  have e : l.getD k 0 = l[k] := by simp [List.getElem?_eq_getElem h]
  rw [List.take_succ_eq_append_getElem h, valN_append, List.length_take, Nat.min_eq_left (by omega), e]
  simp [valN]
theorem pow128_le (k : Nat) (h : k < 9) : 128 ^ k ≤ 72057594037927936 := Nat.pow_le_pow_right (show 0 < 128 by omega) (show k ≤ 8 by omega)
theorem and127 (x : Nat) (hx : x < 256) : bits .and .u8 (x : Int) 127 = ((x % 128 : Nat) : Int) := by
  have h127 : (BitVec.ofInt 8 127).toNat = 2 ^ 7 - 1 := by decide
  have key : (BitVec.ofInt 8 (x : Int) &&& BitVec.ofInt 8 127).toNat = x % 128 := by
    rw [BitVec.toNat_and, BitVec.toNat_ofInt, h127, Nat.and_two_pow_sub_one_eq_mod]
    omega
  show IntKind.u8.wrap ((BitVec.ofInt 8 (x : Int) &&& BitVec.ofInt 8 127).toNat : Nat) = _
  rw [key, IntKind.wrap_u8]
  omega
theorem get_form2 (V y P : Nat) (hV : V < P) (hy : y < 128) (hP : P ≤ 72057594037927936) (hor : P * y ||| V = P * y + V) :
    bits .or .i64 (V : Int) (wrap64 ((y : Int) * (P : Int))) = ((V + P * y : Nat) : Int) := by
  have hb : P * y ≤ P * 127 := Nat.mul_le_mul_left _ (by omega)
  have e3 : wrap64 ((y : Int) * (P : Int)) = ((P * y : Nat) : Int) := by
    rw [← Int.natCast_mul, Nat.mul_comm y]
    exact IntWalk.wrap64_in _ (by omega)
  rw [e3, or_i64_nat _ _ (by omega) (by omega), Nat.or_comm, hor, Nat.add_comm]
theorem get_form (V x k : Nat) (hV : V < 128 ^ k) (hx : x < 256) (hk : k < 9) :
    bits .or .i64 (V : Int) (wrap64 (wrap64 (bits .and .u8 (x : Int) 127) * 2 ^ (7 * k))) = ((V + 128 ^ k * (x % 128) : Nat) : Int) := by
  have hp := pow128_le k hk
  have e : (128 : Nat) ^ k = 2 ^ (7 * k) := by rw [Nat.pow_mul]
  have hm : x % 128 < 128 := Nat.mod_lt _ (by omega)
  have e1 : wrap64 ((x % 128 : Nat) : Int) = ((x % 128 : Nat) : Int) := IntWalk.wrap64_in _ (by omega)
  have e2 : (2 : Int) ^ (7 * k) = ((128 ^ k : Nat) : Int) := by rw [e]; simp
  have hor : 128 ^ k * (x % 128) ||| V = 128 ^ k * (x % 128) + V := by
    rw [e, ← Nat.two_pow_add_eq_or_of_lt (by rw [← e]; exact hV)]
  rw [and127 x hx, e1, e2]
  exact get_form2 V _ _ hV hm hp hor

set_option maxRecDepth 100000 in
set_option maxHeartbeats 400000 in
theorem get_any (N K E : Nat) (A : Option Addr) (n c B : Nat) (l : List UInt8) (w : World) (hr : Bytes w B A n l) (hT : getN l = (N, K, E)) :
    Calls Try.prog 35 #[.slice A n c] w fun e w' => e = .returned (.tuple #[.int .i64 (N : Int), .int .i64 (K : Int), .int .i64 (E : Int)]) ∧ w = w' := by
  have HL := Lib.hid hr.blen
  have HR := Lib.hid hr
  have HT := Lib.hid hT
  clear hr hT
  go_enter Try.func35, Try.ntmps35
  go_wp2_with fail
  go_loop [5, 7] (fun v i => ∃ k f : Nat, k + f = 9 ∧ i = .int .i64 k ∧ v = .int .i64 ((valN (l.take k) : Nat) : Int) ∧ getF l f k = (N, K, E)) (fun _ i => 9 - (intOf i).toNat)
  case atStart => exact ⟨0, 9, rfl, rfl, rfl, HT.out⟩
  case round =>
    obtain ⟨k, f, hkf, rfl, rfl, hg⟩ := hrel
    have hk9 : k ≤ 9 := by omega
    have HG := Lib.hid hg
    clear hg
    by_cases hk : k < 9
    · obtain ⟨f, rfl⟩ : ∃ g, f = g + 1 := ⟨f - 1, by omega⟩
      have HKF : Hid (k + 1 + f = 9) := hide (by omega)
      clear hkf
      by_cases hlt : k < n
      · obtain ⟨ad, rfl, _, hc⟩ := HR.out.byte hlt
        have HG2 : Hid (getF l (f + 1) k = if 128 ≤ (l.getD k 0).toNat then getF l f (k + 1) else if 0 < k ∧ (l.getD k 0).toNat = 0 then (0, 0, 3) else (valN (l.take (k + 1)), k + 1, 0)) := by
          show _ = _
          rw [getF, if_neg (by rw [HL.out]; omega)]
        have HV := Lib.hid (valN_next l k (by rw [HL.out]; exact hlt))
        have HVL : Hid (valN (l.take k) < 128 ^ k) := by
          have := valN_lt (l.take k)
          rw [List.length_take, HL.out, Nat.min_eq_left (by omega)] at this
          exact this
        have hx := UInt8.toNat_lt (l.getD k 0)
        generalize hxe : (l.getD k 0).toNat = x at *
        generalize hve : valN (l.take k) = V at *
        have HX := Lib.hid hxe
        have HVe := Lib.hid hve
        clear hxe hve
        have HF := Lib.hid (get_form V x k HVL.out hx hk)
        have HG3 := Lib.hid (HG.out.symm.trans HG2.out)
        by_cases h128 : 128 ≤ x
        · go_wp2_with fail
          go_round
          case rel => exact ⟨k + 1, f, HKF.out, by go_num, by rw [HF.out, HV.out], by rw [HG3.out, if_pos h128]⟩
          case measure => simp [intOf]; omega
        · by_cases h0 : x = 0
          · by_cases hk0 : 0 < k
            · have HZ : Hid ((N, K, E) = (0, 0, 3)) := by
                show _ = _
                rw [HG3.out, if_neg (by omega), if_pos ⟨hk0, h0⟩]
              subst h0
              go_wp2_with fail
              go_ret3
              have hz := HZ.out
              simp only [Prod.mk.injEq] at hz
              obtain ⟨rfl, rfl, rfl⟩ := hz
              exact ⟨rfl, rfl⟩
            · have HZ : Hid ((N, K, E) = (valN (l.take (k + 1)), k + 1, 0)) := by
                show _ = _
                rw [HG3.out, if_neg (by omega), if_neg (by omega)]
              subst h0
              go_wp2_with fail
              go_ret3
              have hz := HZ.out
              simp only [Prod.mk.injEq] at hz
              obtain ⟨rfl, rfl, rfl⟩ := hz
              exact ⟨ret_tri (by rw [HV.out, ← HF.out]; rfl) (by simp) rfl, rfl⟩
          · have h0' : ((x : Int) == 0) = false := beq_eq_false_iff_ne.2 (by omega)
            go_wp2_with fail
            go_ret3
            have hz := HG3.out
            rw [if_neg h128, if_neg (by omega)] at hz
            simp only [Prod.mk.injEq] at hz
            obtain ⟨rfl, rfl, rfl⟩ := hz
            exact ⟨ret_tri (by rw [HV.out, ← HF.out]) (by simp) rfl, rfl⟩
      · go_wp2_with fail
        go_ret3
        have h := HG.out
        rw [getF, if_pos (by rw [HL.out]; omega)] at h
        simp only [Prod.mk.injEq] at h
        obtain ⟨rfl, rfl, rfl⟩ := h
        exact ⟨rfl, rfl⟩
    · obtain rfl : k = 9 := by omega
      obtain rfl : f = 0 := by omega
      go_wp2_with fail
      go_ret3
      have h := HG.out
      simp only [getF, Prod.mk.injEq] at h
      obtain ⟨rfl, rfl, rfl⟩ := h
      exact ⟨rfl, rfl⟩

/-- the number that the bytes from index k to i - 1 give, the highest last -/
theorem valN_prev (l : List UInt8) (i k : Nat) (hk : k < i) (h : i ≤ l.length) : valN ((l.take i).drop k) = (l.getD k 0).toNat % 128 + 128 * valN ((l.take i).drop (k + 1)) := by
  rw [List.drop_eq_getElem_cons (by rw [List.length_take]; omega), valN]
  simp [List.getElem?_eq_getElem (show k < l.length by omega)]
end

section
open Go.RowKit

theorem ei_byte : EInfo Try.prog 56 5 1 1 := EInfo.mk' Try.underlying56 (z := .int .u8 0) (by kernel_rfl) rfl (by omega)
/-- a row of bytes of the call's own -/
def OwnB (w : World) (base : Nat) (v : Value) (l : List UInt8) : Prop := w.ownsRow base 5 1 v l.length (l.map B8)
theorem OwnB.open_ {w : World} {base : Nat} {v : Value} {l : List UInt8} (h : OwnB w base v l) : ∃ A c, v = .slice A l.length c ∧ l.length ≤ c ∧ c ≤ maxLen ∧ Bytes w w.heap.size A l.length l := own_open h
theorem OwnB.nam {w : World} {base : Nat} {v : Value} {l : List UInt8} (h : OwnB w base v l) : ∃ A n c, v = .slice A n c ∧ Hid (l.length = n) ∧ n ≤ c ∧ c ≤ maxLen ∧ Bytes w w.heap.size A n l := by
  obtain ⟨A, c, h1, h2, h3, h4⟩ := h.open_
  exact ⟨A, _, c, h1, hide rfl, h2, h3, h4⟩
theorem OwnB.nil (w : World) (base : Nat) : OwnB w base (.slice none 0 0) [] := World.ownsRow_nil _ _ _ _
theorem OwnB.mono {w : World} {base base' : Nat} {v : Value} {l : List UInt8} (h : OwnB w base v l) (hB : base' ≤ base) : OwnB w base' v l := by
  refine ⟨h.1, ?_⟩
  rcases h.2 with h0 | ⟨g, cap, cur, h1, h2, h3⟩
  · exact .inl h0
  · exact .inr ⟨g, cap, cur, h1, by omega, h3⟩
theorem B8_of (x : Nat) (h : x < 256) : Value.int .u8 (x : Int) = B8 (UInt8.ofNat x) := by
  unfold B8
  rw [ofNat_toNat x h]
theorem or128_form (x : Nat) : bits .or .u8 ((x : Int) % 256) 128 = ((x % 128 + 128 : Nat) : Int) := by
  have e : (x : Int) % 256 = ((x % 256 : Nat) : Int) := by omega
  rw [e]
  have h := u8_or_nat (x % 256) 128 (Nat.mod_lt _ (by omega)) (by omega)
  have h2 : x % 256 ||| 128 = x % 128 + 128 := by
    have hx := Nat.mod_lt x (show 0 < 256 by omega)
    have hy : x % 128 = x % 256 % 128 := by omega
    rw [hy]
    generalize x % 256 = z at hx
    have key : ∀ z : Fin 256, z.val ||| 128 = z.val % 128 + 128 := by decide +kernel
    exact key ⟨z, hx⟩
  rw [h2] at h
  exact h

theorem OwnB.mk' {w : World} {base n : Nat} {v : Value} {l : List UInt8} {xs : List Value} (h : w.ownsRow base 5 1 v n xs) (hn : n = l.length) (hx : xs = l.map B8) : OwnB w base v l := by
  subst hn
  subst hx
  exact h
theorem snoc_map (l : List UInt8) (c : UInt8) (z : Int) (h : Value.int .u8 z = B8 c) : l.map B8 ++ [.int .u8 z] = (l ++ [c]).map B8 := by rw [h]; simp
theorem app_map (l r : List UInt8) : l.map B8 ++ r.map B8 = (l ++ r).map B8 := by simp

set_option maxRecDepth 100000 in
set_option maxHeartbeats 400000 in
theorem put_any (base : Nat) (v : Value) (b : List UInt8) (n : Int) (m : Nat) (w : World) (hn : n ≤ 9223372036854775807) (hm : n.toNat = m) (hown : OwnB w base v b) (hb : base ≤ w.heap.size) (hl : b.length ≤ 100000000) :
    Calls Try.prog 48 #[v, .int .i64 n] w fun e w' => ∃ v', e = .returned v' ∧ OwnB w' base v' (b ++ putN m) ∧ Below base w w' := by
  have HO := Lib.hid hown
  obtain ⟨A, c, rfl, hc1, hc2, _⟩ := hown.open_
  have hmb : m < 9223372036854775808 := by omega
  have hways : (n < 0 ∧ m = 0) ∨ (¬ n < 0 ∧ n = (m : Int)) := by omega
  clear hown hm
  rcases hways with ⟨h1, rfl⟩ | ⟨h1, rfl⟩
  · go_enter Try.func48, Try.ntmps48
    go_wp2_with fail
    go_loopw [0, 1] (fun v i wr => ∃ (x : Nat) (d : List UInt8), x < 9223372036854775808 ∧ i = .int .i64 (x : Int) ∧ d ++ putN x = putN 0 ∧ d.length ≤ 10 ∧ OwnB wr base v (b ++ d) ∧ Below base w wr) (fun _ i _ => (intOf i).toNat)
    case atStart => exact ⟨0, [], by omega, rfl, rfl, by simp, by rw [List.append_nil]; exact HO.out, Below.refl _ _⟩
    case round =>
      obtain ⟨x, d, hx, rfl, hd, hdl, hown, hbr⟩ := hrel
      obtain ⟨wo, rfl⟩ : ∃ wo : World, wo = wr := ⟨_, rfl⟩
      have HOr := Lib.hid hown
      obtain ⟨A2, c2, rfl, hc21, hc22, _⟩ := hown.open_
      have HD := Lib.hid hd
      have hbs := hbr.size
      have hll : (b ++ d).length ≤ 100000010 := by simp; omega
      generalize hL : (b ++ d).length = L at *
      have HL := Lib.hid hL
      have HOr2 : Hid (wo.ownsRow base 5 1 (.slice A2 L c2) L ((b ++ d).map B8)) := by
        have h := HOr.out
        unfold OwnB at h
        rw [HL.out] at h
        exact hide h
      clear hown hd hL
      by_cases h128 : x < 128
      · have HLow : Hid (Value.int .u8 (x : Int) = B8 (UInt8.ofNat x)) := hide (B8_of x (by omega))
        have HP := Lib.hid (putN_low x h128)
        go_wp2_with
          (at_builtin
           refine wpList_app _ ei_byte rfl (.tmp 17) (.tmp 20) rfl base (.slice A2 L c2) L ((b ++ d).map B8) rfl (HOr2.out.alloc _) (wo.heap.size + 1) (some ⟨wo.heap.size, 0, none⟩) 1 1 [.int .u8 (x : Int)] rfl (Reads.new wo 5 #[.int .u8 (x : Int)] 1 1 rfl) (by simp [Value.oneCell']) (by simp only [maxLen]; omega) (by omega) (by simp; omega) ?_
           intro v4 w4 hown4 hg4 hbw4 hat4
           have HO4 : Hid (OwnB w4 base v4 (b ++ putN 0)) := by
             rw [snoc_map _ _ _ HLow.out] at hown4
             exact OwnB.mk' hown4 (by rw [← HD.out, HP.out, ← HL.out]; simp; omega) (by rw [← HD.out, HP.out, List.append_assoc])
           have HB4 : Hid (Below base w w4) := (hbr.alloc (by omega) _).trans hbw4
           clear hown4 hg4 hbw4 hat4)
        go_ret
        exact ⟨_, rfl, HO4.out, HB4.out⟩
      · have HF : Hid (Value.int .u8 (bits .or .u8 ((x : Int) % 256) 128) = B8 (UInt8.ofNat (x % 128 + 128))) := by show _ = _; rw [or128_form x, B8_of _ (by omega)]
        have HP := Lib.hid (putN_step x h128 hx)
        go_wp2_with
          (at_builtin
           refine wpList_app _ ei_byte rfl (.tmp 9) (.tmp 13) rfl base (.slice A2 L c2) L ((b ++ d).map B8) rfl (HOr2.out.alloc _) (wo.heap.size + 1) (some ⟨wo.heap.size, 0, none⟩) 1 1 [.int .u8 (bits .or .u8 ((x : Int) % 256) 128)] rfl (Reads.new wo 5 #[.int .u8 (bits .or .u8 ((x : Int) % 256) 128)] 1 1 rfl) (by simp [Value.oneCell']) (by simp only [maxLen]; omega) (by omega) (by simp; omega) ?_
           intro v4 w4 hown4 hg4 hbw4 hat4
           have HO4 : Hid (OwnB w4 base v4 (b ++ (d ++ [UInt8.ofNat (x % 128 + 128)]))) := by
             rw [snoc_map _ _ _ HF.out] at hown4
             exact OwnB.mk' hown4 (by rw [← HL.out]; simp; omega) (by rw [List.append_assoc])
           have HB4 : Hid (Below base w w4) := (hbr.alloc (by omega) _).trans hbw4
           clear hown4 hg4 hbw4 hat4)
        go_roundw
        case rel =>
          have hd2 : (d ++ [UInt8.ofNat (x % 128 + 128)]) ++ putN (x / 128) = putN 0 := by rw [← HD.out, HP.out]; simp
          refine ⟨x / 128, d ++ [UInt8.ofNat (x % 128 + 128)], by omega, by go_num, hd2, ?_, HO4.out, HB4.out⟩
          have h1 := congrArg List.length hd2
          have h2 := putN_len 0
          rw [List.length_append] at h1
          omega
        case measure => simp [intOf]; omega
  · go_enter Try.func48, Try.ntmps48
    go_wp2_with fail
    go_loopw [0, 1] (fun v i wr => ∃ (x : Nat) (d : List UInt8), x < 9223372036854775808 ∧ i = .int .i64 (x : Int) ∧ d ++ putN x = putN m ∧ d.length ≤ 10 ∧ OwnB wr base v (b ++ d) ∧ Below base w wr) (fun _ i _ => (intOf i).toNat)
    case atStart => exact ⟨m, [], by omega, rfl, rfl, by simp, by rw [List.append_nil]; exact HO.out, Below.refl _ _⟩
    case round =>
      obtain ⟨x, d, hx, rfl, hd, hdl, hown, hbr⟩ := hrel
      obtain ⟨wo, rfl⟩ : ∃ wo : World, wo = wr := ⟨_, rfl⟩
      have HOr := Lib.hid hown
      obtain ⟨A2, c2, rfl, hc21, hc22, _⟩ := hown.open_
      have HD := Lib.hid hd
      have hbs := hbr.size
      have hll : (b ++ d).length ≤ 100000010 := by simp; omega
      generalize hL : (b ++ d).length = L at *
      have HL := Lib.hid hL
      have HOr2 : Hid (wo.ownsRow base 5 1 (.slice A2 L c2) L ((b ++ d).map B8)) := by
        have h := HOr.out
        unfold OwnB at h
        rw [HL.out] at h
        exact hide h
      clear hown hd hL
      by_cases h128 : x < 128
      · have HLow : Hid (Value.int .u8 (x : Int) = B8 (UInt8.ofNat x)) := hide (B8_of x (by omega))
        have HP := Lib.hid (putN_low x h128)
        go_wp2_with
          (at_builtin
           refine wpList_app _ ei_byte rfl (.tmp 17) (.tmp 20) rfl base (.slice A2 L c2) L ((b ++ d).map B8) rfl (HOr2.out.alloc _) (wo.heap.size + 1) (some ⟨wo.heap.size, 0, none⟩) 1 1 [.int .u8 (x : Int)] rfl (Reads.new wo 5 #[.int .u8 (x : Int)] 1 1 rfl) (by simp [Value.oneCell']) (by simp only [maxLen]; omega) (by omega) (by simp; omega) ?_
           intro v4 w4 hown4 hg4 hbw4 hat4
           have HO4 : Hid (OwnB w4 base v4 (b ++ putN m)) := by
             rw [snoc_map _ _ _ HLow.out] at hown4
             exact OwnB.mk' hown4 (by rw [← HD.out, HP.out, ← HL.out]; simp; omega) (by rw [← HD.out, HP.out, List.append_assoc])
           have HB4 : Hid (Below base w w4) := (hbr.alloc (by omega) _).trans hbw4
           clear hown4 hg4 hbw4 hat4)
        go_ret
        exact ⟨_, rfl, HO4.out, HB4.out⟩
      · have HF : Hid (Value.int .u8 (bits .or .u8 ((x : Int) % 256) 128) = B8 (UInt8.ofNat (x % 128 + 128))) := by show _ = _; rw [or128_form x, B8_of _ (by omega)]
        have HP := Lib.hid (putN_step x h128 hx)
        go_wp2_with
          (at_builtin
           refine wpList_app _ ei_byte rfl (.tmp 9) (.tmp 13) rfl base (.slice A2 L c2) L ((b ++ d).map B8) rfl (HOr2.out.alloc _) (wo.heap.size + 1) (some ⟨wo.heap.size, 0, none⟩) 1 1 [.int .u8 (bits .or .u8 ((x : Int) % 256) 128)] rfl (Reads.new wo 5 #[.int .u8 (bits .or .u8 ((x : Int) % 256) 128)] 1 1 rfl) (by simp [Value.oneCell']) (by simp only [maxLen]; omega) (by omega) (by simp; omega) ?_
           intro v4 w4 hown4 hg4 hbw4 hat4
           have HO4 : Hid (OwnB w4 base v4 (b ++ (d ++ [UInt8.ofNat (x % 128 + 128)]))) := by
             rw [snoc_map _ _ _ HF.out] at hown4
             exact OwnB.mk' hown4 (by rw [← HL.out]; simp; omega) (by rw [List.append_assoc])
           have HB4 : Hid (Below base w w4) := (hbr.alloc (by omega) _).trans hbw4
           clear hown4 hg4 hbw4 hat4)
        go_roundw
        case rel =>
          have hd2 : (d ++ [UInt8.ofNat (x % 128 + 128)]) ++ putN (x / 128) = putN m := by rw [← HD.out, HP.out]; simp
          refine ⟨x / 128, d ++ [UInt8.ofNat (x % 128 + 128)], by omega, by go_num, hd2, ?_, HO4.out, HB4.out⟩
          have h1 := congrArg List.length hd2
          have h2 := putN_len m
          rw [List.length_append] at h1
          omega
        case measure => simp [intOf]; omega
theorem OwnB.row {w : World} {base n : Nat} {v : Value} {l : List UInt8} (h : OwnB w base v l) (hn : l.length = n) : w.ownsRow base 5 1 v n (l.map B8) := by
  subst hn
  exact h
set_option maxHeartbeats 400000 in
theorem clone_b (A : Option Addr) (n c B : Nat) (l : List UInt8) (w : World) (hr : Bytes w B A n l) (hn : n ≤ 100000000) (hB : B ≤ w.heap.size) :
    Calls Try.prog 27 #[.slice A n c] w fun e w' => ∃ v, e = .returned v ∧ OwnB w' w.heap.size v l ∧ Below w.heap.size w w' := by
  have HR := Lib.hid hr
  have HL := Lib.hid hr.blen
  clear hr
  have q : ∀ (w : World) (a : Option Addr) (n c n' c' : Nat), (binOp .eql 56 (.slice a n c) (.slice none n' c')).run Try.prog w = .ok (.bool a.isNone) w := fun w a n c n' c' => Lib.run_eql_slice_nil w _ _ a n c n' c' Try.underlying56
  cases A with
  | none =>
    have hn0 : n = 0 := by
      rcases Nat.eq_zero_or_pos n with h | h
      · exact h
      · obtain ⟨ad, h1, _⟩ := HR.out.2 h
        cases h1
    subst hn0
    go_enter Try.func27, Try.ntmps27
    go_wp2
    go_ret
    refine ⟨_, rfl, ?_, Below.refl _ _⟩
    rw [List.eq_nil_of_length_eq_zero HL.out]
    exact OwnB.nil _ _
  | some ad =>
    go_enter Try.func27, Try.ntmps27
    go_wp2_with
      (at_builtin
       refine wpList_app _ ei_byte rfl (.tmp 5) (.tmp 6) rfl w.heap.size (.slice (some ⟨w.heap.size, 0, none⟩) 0 0) 0 [] rfl (World.ownsRow_lit w #[] 0 (Nat.le_refl _) (by simp [maxLen]) rfl) B (some ad) n c (l.map B8) rfl (HR.out.alloc hB _) (oneCell_B8 l) (by simp only [maxLen]; omega) (by omega) (by simp) ?_
       intro v2 w2 hown2 _ hbw2 _
       have hbw : Below w.heap.size w w2 := ((Below.refl _ _).alloc (Nat.le_refl _) _).trans hbw2
       simp only [Nat.zero_add, List.nil_append] at hown2
       have HO := Lib.hid (OwnB.mk' hown2 HL.out.symm rfl)
       clear hown2 hbw2)
    go_ret
    exact ⟨_, rfl, HO.out, hbw⟩

set_option maxHeartbeats 400000 in
theorem Put_any (A : Option Addr) (n c B : Nat) (l : List UInt8) (x : Int) (m : Nat) (w : World) (hr : Bytes w B A n l) (hn : n ≤ 100000000) (hB : B ≤ w.heap.size) (hx : x ≤ 9223372036854775807) (hm : x.toNat = m) :
    Calls Try.prog 47 #[.slice A n c, .int .i64 x] w fun e w' => ∃ v, e = .returned v ∧ OwnB w' w.heap.size v (l ++ putN m) ∧ Below w.heap.size w w' := by
  have HR := Lib.hid hr
  have HL := Lib.hid hr.blen
  have HMx := Lib.hid hm
  clear hr hm
  go_enter Try.func47, Try.ntmps47
  go_wp2_with fail
  with_reducible refine (clone_b A n c B l w HR.out hn hB).mono ?_
  rintro e w2 ⟨v, rfl, hown, hb⟩
  have HO := Lib.hid hown
  clear hown
  go_wp2_with fail
  with_reducible refine (put_any w.heap.size v l x m w2 hx HMx.out HO.out hb.size (by rw [HL.out]; exact hn)).mono ?_
  rintro e w3 ⟨v3, rfl, hown3, hb3⟩
  have HO3 := Lib.hid hown3
  clear hown3
  go_wp2_with fail
  go_ret
  exact ⟨_, rfl, HO3.out, hb.trans hb3⟩

theorem run_str {P : Program} {src e dst : TypeId} (w : World) (hs : P.underlying src = some (.slice e)) (he : P.underlying e = some (.int .u8)) (hd : P.underlying dst = some .string)
    {B : Nat} {A : Option Addr} {n : Nat} {l : List UInt8} (hr : Bytes w B A n l) (c : Nat) : (convert src dst (.slice A n c)).run P w = .ok (.string ⟨l.toArray⟩) w := by
  have hl := hr.blen
  rw [run_convert_bytes_string w src dst e A n c hs he hd]
  rcases A with _ | ad
  · have hn : n = 0 := by
      rcases Nat.eq_zero_or_pos n with h | h
      · exact h
      · obtain ⟨ad, h1, _⟩ := hr.2 h
        cases h1
    subst hn
    rw [List.eq_nil_of_length_eq_zero hl]
    simp [Conv.bytesToString, Sem.run_pure]
    rfl
  · have hload : (loadCells ad n).run P w = .ok ((l.map fun c => (c.toNat : Int)).map (Value.int .u8)).toArray w := by
      have h := run_loadCells_list (P := P) w ad (l.map B8) (fun j u hu => by
        have hj : j < n := by
          have := (List.getElem?_eq_some_iff.1 hu).1
          simpa [hl] using this
        obtain ⟨ad', e1, _, hc⟩ := hr.2 (by omega)
        injection e1 with e1
        subst e1
        exact hc j u hu)
      rw [List.length_map, hl] at h
      rw [h]
      simp [B8, Function.comp_def]
    rw [run_bytesToString w ad n c _ hload, foldl_push_bytes]
    congr 2
    simp [ByteArray.empty, ByteArray.emptyWithCapacity, Function.comp_def]
    rfl
end

end Go.Proofs.Ytedeggjefnpjgaa
