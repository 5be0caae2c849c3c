/-
  The plain law of chapter 3: varints, texts, lists, checksums and frames as functions of lists of bytes. No program is in sight.
-/
namespace Go.Proofs.Ytdmkkpnjakdnnaa

/-! ### varints -/
def putF : Nat → Nat → List UInt8
  | 0, n => [UInt8.ofNat n]
  | f + 1, n => if n < 128 then [UInt8.ofNat n] else UInt8.ofNat (n % 128 + 128) :: putF f (n / 128)
def putN (n : Nat) : List UInt8 := putF 9 n
theorem putF_low (f n : Nat) (h : n < 128) : putF f n = [UInt8.ofNat n] := by
  cases f with
  | zero => rfl
  | succ f => rw [putF, if_pos h]
theorem div128 {n f : Nat} (h : n < 128 ^ (f + 1 + 1)) : n / 128 < 128 ^ (f + 1) := by
  rw [Nat.pow_succ] at h
  exact Nat.div_lt_of_lt_mul (by omega)
theorem putF_fuel (f : Nat) : ∀ (g n : Nat), n < 128 ^ (f + 1) → n < 128 ^ (g + 1) → putF f n = putF g n := by
  induction f with
  | zero => intro g n h _; rw [putF_low _ _ (by omega), putF_low _ _ (by omega)]
  | succ f ih =>
    intro g n h h'
    by_cases hn : n < 128
    · rw [putF_low _ _ hn, putF_low _ _ hn]
    · cases g with
      | zero => omega
      | succ g => rw [putF, putF, if_neg hn, if_neg hn, ih g (n / 128) (div128 h) (div128 h')]
theorem putN_low (n : Nat) (h : n < 128) : putN n = [UInt8.ofNat n] := putF_low _ _ h
theorem putN_step (n : Nat) (h : ¬ n < 128) (hn : n < 9223372036854775808) : putN n = UInt8.ofNat (n % 128 + 128) :: putN (n / 128) := by
  show putF 9 n = _ :: putF 9 _
  rw [show putF 9 n = if n < 128 then [UInt8.ofNat n] else UInt8.ofNat (n % 128 + 128) :: putF 8 (n / 128) from rfl, if_neg h, putF_fuel 8 9 (n / 128)]
  · show _ < 9223372036854775808; omega
  · show _ < 1180591620717411303424; omega
theorem putF_len (f : Nat) : ∀ n, 1 ≤ (putF f n).length ∧ (putF f n).length ≤ f + 1 := by
  induction f with
  | zero => intro n; simp [putF]
  | succ f ih =>
    intro n
    rw [putF]
    split
    · simp
    · have := ih (n / 128); simp; omega
theorem putN_len (n : Nat) : 1 ≤ (putN n).length ∧ (putN n).length ≤ 10 := putF_len 9 n
theorem putN_len9 (n : Nat) (hn : n < 9223372036854775808) : (putN n).length ≤ 9 := by
  have e : putN n = putF 8 n := putF_fuel 9 8 n (Nat.lt_of_lt_of_le hn (by decide)) hn
  rw [e]
  exact (putF_len 8 n).2

def valN : List UInt8 → Nat
  | [] => 0
  | c :: t => c.toNat % 128 + 128 * valN t
theorem valN_append (a b : List UInt8) : valN (a ++ b) = valN a + 128 ^ a.length * valN b := by
  induction a with
  | nil => simp [valN]
  | cons c t ih =>
    rw [List.cons_append, valN, valN, ih, List.length_cons, Nat.pow_succ, Nat.mul_add, Nat.mul_comm (128 ^ t.length) 128, Nat.mul_assoc]
    omega
theorem valN_lt (l : List UInt8) : valN l < 128 ^ l.length := by
  induction l with
  | nil => simp [valN]
  | cons c t ih =>
    rw [valN, List.length_cons, Nat.pow_succ]
    have := Nat.mod_lt c.toNat (show 0 < 128 by omega)
    omega

/-- what Get answers where the first i bytes have the highest bit set; f: how many bytes may still be looked at -/
def getF (l : List UInt8) : Nat → Nat → Nat × Nat × Nat
  | 0, _ => (0, 0, 4)
  | f + 1, i => if l.length ≤ i then (0, 0, 5) else if 128 ≤ (l.getD i 0).toNat then getF l f (i + 1) else if 0 < i ∧ (l.getD i 0).toNat = 0 then (0, 0, 3) else (valN (l.take (i + 1)), i + 1, 0)
def getN (l : List UInt8) : Nat × Nat × Nat := getF l 9 0

theorem ofNat_toNat (n : Nat) (h : n < 256) : (UInt8.ofNat n).toNat = n := UInt8.toNat_ofNat_of_lt' h
theorem toNat_ext {a b : UInt8} (h : a.toNat = b.toNat) : a = b := UInt8.toNat_inj.1 h
theorem ofNat_of (c : UInt8) : UInt8.ofNat c.toNat = c := toNat_ext (ofNat_toNat _ (UInt8.toNat_lt c))
theorem getD_mid (a : List UInt8) (x : UInt8) (b : List UInt8) : (a ++ x :: b).getD a.length 0 = x := by simp
theorem take_mid (a : List UInt8) (x : UInt8) (b : List UInt8) : (a ++ x :: b).take (a.length + 1) = a ++ [x] := by
  rw [show a ++ x :: b = (a ++ [x]) ++ b by simp, List.take_left' (by simp)]

theorem valN_putF (f : Nat) : ∀ n, n < 128 ^ (f + 1) → valN (putF f n) = n := by
  induction f with
  | zero =>
    intro n h
    simp only [putF, valN]
    rw [ofNat_toNat _ (by omega)]
    omega
  | succ f ih =>
    intro n h
    rw [putF]
    split
    · rename_i h1
      simp only [valN]
      rw [ofNat_toNat _ (by omega)]
      omega
    · simp only [valN]
      rw [ofNat_toNat _ (by omega), ih _ (div128 h)]
      omega
theorem valN_putN (n : Nat) (hn : n < 9223372036854775808) : valN (putN n) = n := valN_putF 9 n (Nat.lt_of_lt_of_le hn (by decide))

/-- what was put is read -/
theorem getF_put (f : Nat) : ∀ (pre rest : List UInt8) (n : Nat), n < 128 ^ (f + 1) → (pre = [] ∨ n ≠ 0) →
    getF (pre ++ (putF f n ++ rest)) (f + 1) pre.length = (valN (pre ++ putF f n), pre.length + (putF f n).length, 0) := by
  induction f with
  | zero =>
    intro pre rest n h h0
    simp only [putF, List.singleton_append]
    rw [getF, if_neg (by simp), getD_mid, if_neg (by rw [ofNat_toNat _ (by omega)]; omega), if_neg, take_mid]
    · simp
    · rw [ofNat_toNat _ (by omega)]
      rintro ⟨h1, h2⟩
      rcases h0 with rfl | h0
      · simp at h1
      · exact h0 h2
  | succ f ih =>
    intro pre rest n h h0
    by_cases hn : n < 128
    · rw [putF_low _ _ hn]
      simp only [List.singleton_append]
      rw [getF, if_neg (by simp), getD_mid, if_neg (by rw [ofNat_toNat _ (by omega)]; omega), if_neg, take_mid]
      · simp
      · rw [ofNat_toNat _ (by omega)]
        rintro ⟨h1, h2⟩
        rcases h0 with rfl | h0
        · simp at h1
        · exact h0 h2
    · rw [putF, if_neg hn, List.cons_append, getF, if_neg (by simp), getD_mid, if_pos (by rw [ofNat_toNat _ (by omega)]; omega)]
      have := ih (pre ++ [UInt8.ofNat (n % 128 + 128)]) rest (n / 128) (div128 h) (.inr (by omega))
      simp only [List.append_assoc, List.singleton_append, List.length_append, List.length_singleton] at this
      rw [this, List.length_cons]
      congr 2
      omega
theorem getN_put (n : Nat) (hn : n < 9223372036854775808) (rest : List UInt8) : getN (putN n ++ rest) = (n, (putN n).length, 0) := by
  have h := getF_put 8 [] rest n hn (.inl rfl)
  have e : putN n = putF 8 n := putF_fuel 9 8 n (Nat.lt_of_lt_of_le hn (by decide)) hn
  rw [e]
  simp only [List.nil_append, List.length_nil, Nat.zero_add] at h
  rw [getN, h, valN_putF 8 n hn]

/-- what is read was put in the only possible form -/
theorem getF_form (f : Nat) : ∀ (pre suf : List UInt8) (n k e : Nat), (∀ c ∈ pre, 128 ≤ c.toNat) → getF (pre ++ suf) f pre.length = (n, k, e) →
    (e = 0 ∧ ∃ a x rest, pre ++ suf = a ++ x :: rest ∧ (∀ c ∈ a, 128 ≤ c.toNat) ∧ x.toNat < 128 ∧ (a = [] ∨ x.toNat ≠ 0) ∧ n = valN (a ++ [x]) ∧ k = a.length + 1 ∧ a.length < pre.length + f) ∨ (e ≠ 0 ∧ n = 0 ∧ k = 0 ∧ e ≤ 5) := by
  induction f with
  | zero =>
    intro pre suf n k e _ h
    simp only [getF, Prod.mk.injEq] at h
    right
    omega
  | succ f ih =>
    intro pre suf n k e hp h
    rw [getF] at h
    cases suf with
    | nil =>
      rw [if_pos (by simp)] at h
      simp only [Prod.mk.injEq] at h
      right
      omega
    | cons x t =>
      rw [if_neg (by simp), getD_mid, take_mid] at h
      by_cases hx : 128 ≤ x.toNat
      · rw [if_pos hx] at h
        have := ih (pre ++ [x]) t n k e (by
          intro c hc
          rcases List.mem_append.1 hc with hc | hc
          · exact hp c hc
          · simp at hc; subst hc; exact hx) (by simpa using h)
        rcases this with ⟨h0, a, y, rest, h1, h2, h3, h4, h5, h6, h7⟩ | this
        · left
          exact ⟨h0, a, y, rest, by simpa using h1, h2, h3, h4, h5, h6, by simp at h7; omega⟩
        · exact .inr this
      · rw [if_neg hx] at h
        split at h
        · simp only [Prod.mk.injEq] at h
          right
          omega
        · rename_i h1
          simp only [Prod.mk.injEq] at h
          obtain ⟨rfl, rfl, rfl⟩ := h
          left
          refine ⟨rfl, pre, x, t, rfl, hp, by omega, ?_, rfl, rfl, by omega⟩
          cases pre with
          | nil => exact .inl rfl
          | cons c p =>
            right
            intro e
            exact h1 ⟨by simp, e⟩
theorem putF_canon (a : List UInt8) : ∀ (f : Nat) (x : UInt8), (∀ c ∈ a, 128 ≤ c.toNat) → x.toNat < 128 → (a = [] ∨ x.toNat ≠ 0) → a.length ≤ f → putF f (valN (a ++ [x])) = a ++ [x] := by
  induction a with
  | nil =>
    intro f x _ hx _ _
    simp only [List.nil_append, valN]
    rw [putF_low _ _ (by omega)]
    congr 1
    apply toNat_ext
    rw [ofNat_toNat _ (by omega)]
    omega
  | cons c a ih =>
    intro f x ha hx h0 hf
    cases f with
    | zero => simp at hf
    | succ f =>
      have hx0 : x.toNat ≠ 0 := by
        rcases h0 with h | h
        · cases h
        · exact h
      have hc := ha c (by simp)
      have hc2 := UInt8.toNat_lt c
      have hpos : 0 < valN (a ++ [x]) := by
        rw [valN_append]
        have : 0 < 128 ^ a.length * valN [x] := Nat.mul_pos (Nat.pow_pos (by omega)) (by simp only [valN]; omega)
        omega
      have := ih f x (fun d hd => ha d (by simp [hd])) hx (.inr hx0) (by simpa using hf)
      rw [List.cons_append, valN, putF, if_neg (by omega), show (c.toNat % 128 + 128 * valN (a ++ [x])) / 128 = valN (a ++ [x]) by omega, this]
      congr 1
      apply toNat_ext
      rw [ofNat_toNat _ (by omega)]
      omega
/-- the three ways of Get -/
theorem getN_cases (l : List UInt8) : (∃ n k, getN l = (n, k, 0) ∧ 1 ≤ k ∧ k ≤ 9 ∧ k ≤ l.length ∧ n < 9223372036854775808 ∧ putN n = l.take k ∧ n = valN (l.take k)) ∨ ∃ e, getN l = (0, 0, e) ∧ e ≠ 0 ∧ e ≤ 5 := by
  have h := getF_form 9 [] l (getN l).1 (getN l).2.1 (getN l).2.2 (by simp) rfl
  generalize hg : getN l = g at h
  obtain ⟨n, k, e⟩ := g
  simp only [List.nil_append, List.length_nil, Nat.zero_add] at h
  rcases h with ⟨rfl, a, x, rest, h1, h2, h3, h4, rfl, rfl, h7⟩ | ⟨h1, rfl, rfl, h2⟩
  · left
    have ht : l.take (a.length + 1) = a ++ [x] := by rw [h1, take_mid]
    have hlt := valN_lt (a ++ [x])
    have h9 : 128 ^ (a ++ [x]).length ≤ 9223372036854775808 := Nat.le_trans (Nat.pow_le_pow_right (by omega) (show _ ≤ 9 by simp; omega)) (by decide)
    refine ⟨_, _, rfl, by omega, by omega, by rw [h1]; simp, by omega, ?_, by rw [ht]⟩
    rw [ht]
    exact putF_canon a 9 x h2 h3 h4 (by omega)
  · right
    exact ⟨e, rfl, h1, h2⟩

/-! ### texts and lists -/
def textP (s : List UInt8) : List UInt8 := putN s.length ++ s
def textG (l : List UInt8) : List UInt8 × Nat × Nat :=
  if (getN l).2.2 ≠ 0 then ([], 0, (getN l).2.2) else if 2000 < (getN l).1 then ([], 0, 4) else if l.length < (getN l).2.1 + (getN l).1 then ([], 0, 5) else
    ((l.drop (getN l).2.1).take (getN l).1, (getN l).2.1 + (getN l).1, 0)
/-- the numbers of a list, as varints; a negative one counts as 0 -/
def putsN (l : List Int) : List UInt8 := l.flatMap fun n => putN n.toNat
def listP (l : List Int) : List UInt8 := putN l.length ++ putsN l
theorem putsN_append (a b : List Int) : putsN (a ++ b) = putsN a ++ putsN b := by simp [putsN]
theorem putsN_len (l : List Int) : (putsN l).length ≤ 10 * l.length := by
  induction l with
  | nil => simp [putsN]
  | cons x l ih =>
    have := putN_len x.toNat
    simp only [putsN, List.flatMap_cons, List.length_append, List.length_cons] at ih ⊢
    omega
/-- c numbers of l from index at on, behind those that were read already -/
def numsG (l : List UInt8) : Nat → Nat → List Nat → List Nat × Nat × Nat
  | 0, at_, out => (out, at_, 0)
  | c + 1, at_, out => if (getN (l.drop at_)).2.2 ≠ 0 then ([], 0, (getN (l.drop at_)).2.2) else numsG l c (at_ + (getN (l.drop at_)).2.1) (out ++ [(getN (l.drop at_)).1])
def listG (l : List UInt8) : List Nat × Nat × Nat :=
  if (getN l).2.2 ≠ 0 then ([], 0, (getN l).2.2) else if 10000 < (getN l).1 then ([], 0, 4) else numsG l (getN l).1 (getN l).2.1 []

/-! ### checksums and frames -/
def bitN (r : Nat) : Nat := if r % 2 = 1 then (r / 2) ^^^ 2197175160 else r / 2
def bitI : Nat → Nat → Nat
  | 0, r => r
  | k + 1, r => bitN (bitI k r)
def crcN (l : List UInt8) : Nat := l.foldl (fun r c => bitI 8 (r ^^^ c.toNat)) 4294967295
def sumN (l : List UInt8) : Nat := crcN l ^^^ 4294967295
def be4 (s : Nat) : List UInt8 := [UInt8.ofNat (s / 16777216), UInt8.ofNat (s / 65536), UInt8.ofNat (s / 256), UInt8.ofNat s]
def de4 (l : List UInt8) : Nat := l.foldl (fun s c => s * 256 + c.toNat) 0
def frameN (b : List UInt8) : List UInt8 := putN b.length ++ b ++ be4 (sumN b)
def unfG (l : List UInt8) : List UInt8 × Nat × Nat :=
  if (getN l).2.2 ≠ 0 then ([], 0, (getN l).2.2) else if 65536 < (getN l).1 then ([], 0, 4) else if l.length < (getN l).2.1 + (getN l).1 + 4 then ([], 0, 5) else
    if de4 ((l.drop ((getN l).2.1 + (getN l).1)).take 4) ≠ sumN ((l.drop (getN l).2.1).take (getN l).1) then ([], 0, 6) else
    ((l.drop (getN l).2.1).take (getN l).1, (getN l).2.1 + (getN l).1 + 4, 0)

theorem xor32 (a b : Nat) (ha : a < 4294967296) (hb : b < 4294967296) : a ^^^ b < 4294967296 := Nat.xor_lt_two_pow (n := 32) ha hb
theorem bitN_lt (r : Nat) (h : r < 4294967296) : bitN r < 4294967296 := by
  unfold bitN
  split
  · exact xor32 _ _ (by omega) (by omega)
  · omega
theorem bitI_lt (k r : Nat) (h : r < 4294967296) : bitI k r < 4294967296 := by
  induction k with
  | zero => exact h
  | succ k ih => exact bitN_lt _ ih
theorem bitI_add (k m r : Nat) : bitI (k + m) r = bitI k (bitI m r) := by
  induction k with
  | zero => simp [bitI]
  | succ k ih => rw [Nat.succ_add, bitI, ih, bitI]
theorem xor_half (a b : Nat) : (a ^^^ b) / 2 = a / 2 ^^^ b / 2 := by
  have := Nat.xor_div_two_pow (a := a) (b := b) (n := 1)
  simpa using this
theorem xor_odd (a b : Nat) : (a ^^^ b) % 2 = (a % 2) ^^^ (b % 2) := by
  have := Nat.xor_mod_two_pow (a := a) (b := b) (n := 1)
  simpa using this
theorem bitN_xor (a b : Nat) : bitN (a ^^^ b) = bitN a ^^^ bitN b := by
  unfold bitN
  rw [xor_odd, xor_half]
  have ha : a % 2 = 0 ∨ a % 2 = 1 := by omega
  have hb : b % 2 = 0 ∨ b % 2 = 1 := by omega
  rcases ha with ha | ha <;> rcases hb with hb | hb <;> rw [ha, hb] <;> simp only [Nat.xor_self, Nat.zero_xor, Nat.xor_zero, if_true, if_false, Nat.zero_ne_one]
  · rw [Nat.xor_assoc]
  · rw [Nat.xor_assoc, Nat.xor_comm (b / 2), ← Nat.xor_assoc]
  · rw [Nat.xor_assoc, ← Nat.xor_assoc 2197175160, Nat.xor_comm 2197175160 (b / 2), Nat.xor_assoc (b / 2), Nat.xor_self, Nat.xor_zero]
theorem bitI_xor (k a b : Nat) : bitI k (a ^^^ b) = bitI k a ^^^ bitI k b := by
  induction k with
  | zero => rfl
  | succ k ih => rw [bitI, ih, bitN_xor, bitI, bitI]
theorem bitN_double (q : Nat) : bitN (2 * q) = q := by
  unfold bitN
  rw [if_neg (by omega)]
  omega
theorem bitI4_16 (q : Nat) : bitI 4 (16 * q) = q := by
  simp only [bitI]
  rw [show 16 * q = 2 * (2 * (2 * (2 * q))) by omega, bitN_double, bitN_double, bitN_double, bitN_double]
theorem xor_split (q s : Nat) (h : s < 16) : (16 * q) ^^^ s = 16 * q + s := by
  have h1 := Nat.xor_div_two_pow (a := 16 * q) (b := s) (n := 4)
  have h2 := Nat.xor_mod_two_pow (a := 16 * q) (b := s) (n := 4)
  simp only [show (2 : Nat) ^ 4 = 16 from rfl] at h1 h2
  rw [show 16 * q / 16 = q by omega, Nat.div_eq_of_lt h, Nat.xor_zero] at h1
  rw [show 16 * q % 16 = 0 by omega, Nat.mod_eq_of_lt h, Nat.zero_xor] at h2
  omega
/-- four bits at once -/
theorem nib (r : Nat) : (r / 16) ^^^ bitI 4 (r % 16) = bitI 4 r := by
  have e : r = (16 * (r / 16)) ^^^ (r % 16) := by rw [xor_split _ _ (Nat.mod_lt _ (by omega))]; omega
  conv => rhs; rw [e, bitI_xor, bitI4_16]
theorem crcN_lt (l : List UInt8) : crcN l < 4294967296 := by
  unfold crcN
  generalize h : (4294967295 : Nat) = r
  have hr : r < 4294967296 := by omega
  clear h
  induction l generalizing r with
  | nil => exact hr
  | cons c t ih => exact ih _ (bitI_lt _ _ (xor32 _ _ hr (by have := UInt8.toNat_lt c; omega)))
theorem sumN_lt (l : List UInt8) : sumN l < 4294967296 := xor32 _ _ (crcN_lt l) (by omega)
theorem crcN_snoc (l : List UInt8) (c : UInt8) : crcN (l ++ [c]) = bitI 8 (crcN l ^^^ c.toNat) := by
  unfold crcN
  rw [List.foldl_append]
  rfl
theorem crcN_nib (l : List UInt8) (c : UInt8) : ∀ r1 r2, r1 = crcN l ^^^ c.toNat → r2 = (r1 / 16) ^^^ bitI 4 (r1 % 16) → (r2 / 16) ^^^ bitI 4 (r2 % 16) = crcN (l ++ [c]) := by
  intro r1 r2 h1 h2
  rw [nib] at h2 ⊢
  rw [h2, h1, crcN_snoc, ← bitI_add]

/-! a change is found -/
theorem xorL (a x y : Nat) (h : a ^^^ x = a ^^^ y) : x = y := by
  have e : ∀ z, a ^^^ (a ^^^ z) = z := fun z => by rw [← Nat.xor_assoc, Nat.xor_self, Nat.zero_xor]
  rw [← e x, h, e y]
theorem xorR (a x y : Nat) (h : x ^^^ a = y ^^^ a) : x = y := xorL a x y (by rw [Nat.xor_comm a x, Nat.xor_comm a y, h])
theorem bitN_inj (a b : Nat) (ha : a < 4294967296) (hb : b < 4294967296) (h : bitN a = bitN b) : a = b := by
  unfold bitN at h
  have hlt : ∀ x y : Nat, x < 2147483648 → y < 2147483648 → x ^^^ y < 2147483648 := fun x y hx hy => Nat.xor_lt_two_pow (n := 31) hx hy
  have hne : ∀ x y : Nat, x < 2147483648 → y < 2147483648 → x ^^^ 2197175160 ≠ y := by
    intro x y hx hy e
    have h1 : x ^^^ y = 2197175160 := by rw [← e, ← Nat.xor_assoc, Nat.xor_self, Nat.zero_xor]
    have := hlt x y hx hy
    omega
  split at h <;> split at h
  · have := xorR _ _ _ h
    omega
  · exact (hne _ _ (by omega) (by omega) h).elim
  · exact (hne _ _ (by omega) (by omega) h.symm).elim
  · omega
theorem bitI_inj (k a b : Nat) (ha : a < 4294967296) (hb : b < 4294967296) (h : bitI k a = bitI k b) : a = b := by
  induction k with
  | zero => exact h
  | succ k ih => exact ih (bitN_inj _ _ (bitI_lt _ _ ha) (bitI_lt _ _ hb) h)
theorem crc_foldl_inj (l : List UInt8) : ∀ (r s : Nat), r < 4294967296 → s < 4294967296 → l.foldl (fun r c => bitI 8 (r ^^^ c.toNat)) r = l.foldl (fun r c => bitI 8 (r ^^^ c.toNat)) s → r = s := by
  induction l with
  | nil => intro r s _ _ h; exact h
  | cons c t ih =>
    intro r s hr hs h
    have hc : c.toNat < 4294967296 := by have := UInt8.toNat_lt c; omega
    exact xorR _ _ _ (bitI_inj 8 _ _ (xor32 _ _ hr hc) (xor32 _ _ hs hc) (ih _ _ (bitI_lt _ _ (xor32 _ _ hr hc)) (bitI_lt _ _ (xor32 _ _ hs hc)) h))
theorem sumN_change (a b : List UInt8) (x y : UInt8) (h : sumN (a ++ x :: b) = sumN (a ++ y :: b)) : x = y := by
  have h1 := xorR _ _ _ h
  unfold crcN at h1
  rw [List.foldl_append, List.foldl_append, List.foldl_cons, List.foldl_cons] at h1
  have hx : x.toNat < 4294967296 := by have := UInt8.toNat_lt x; omega
  have hy : y.toNat < 4294967296 := by have := UInt8.toNat_lt y; omega
  have hr := crcN_lt a
  unfold crcN at hr
  have h2 := crc_foldl_inj b _ _ (bitI_lt _ _ (xor32 _ _ hr hx)) (bitI_lt _ _ (xor32 _ _ hr hy)) h1
  exact toNat_ext (xorL _ _ _ (bitI_inj 8 _ _ (xor32 _ _ hr hx) (xor32 _ _ hr hy) h2))

theorem be4_len (s : Nat) : (be4 s).length = 4 := rfl
theorem de4_be4 (s : Nat) (h : s < 4294967296) : de4 (be4 s) = s := by
  simp only [de4, be4, List.foldl_cons, List.foldl_nil, UInt8.toNat_ofNat']
  omega
theorem de4_inj (a b c d a' b' c' d' : UInt8) (h : de4 [a, b, c, d] = de4 [a', b', c', d']) : [a, b, c, d] = [a', b', c', d'] := by
  simp only [de4, List.foldl_cons, List.foldl_nil] at h
  have ha := UInt8.toNat_lt a
  have hb := UInt8.toNat_lt b
  have hc := UInt8.toNat_lt c
  have hd := UInt8.toNat_lt d
  have ha' := UInt8.toNat_lt a'
  have hb' := UInt8.toNat_lt b'
  have hc' := UInt8.toNat_lt c'
  have hd' := UInt8.toNat_lt d'
  rw [toNat_ext (show a.toNat = a'.toNat by omega), toNat_ext (show b.toNat = b'.toNat by omega), toNat_ext (show c.toNat = c'.toNat by omega), toNat_ext (show d.toNat = d'.toNat by omega)]
theorem four (l : List UInt8) (h : l.length = 4) : ∃ a b c d, l = [a, b, c, d] := by
  match l, h with
  | [a, b, c, d], _ => exact ⟨a, b, c, d, rfl⟩
theorem be4_de4 (l : List UInt8) (h : l.length = 4) (s : Nat) (hs : s < 4294967296) : de4 l = s ↔ l = be4 s := by
  constructor
  · intro e
    obtain ⟨a, b, c, d, rfl⟩ := four l h
    exact de4_inj _ _ _ _ _ _ _ _ (by rw [e]; exact (de4_be4 s hs).symm)
  · rintro rfl
    exact de4_be4 s hs
end Go.Proofs.Ytdmkkpnjakdnnaa
