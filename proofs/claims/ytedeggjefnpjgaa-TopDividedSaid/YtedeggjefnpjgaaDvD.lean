/-
  The plain law of chapter 29: rides as bytes, and what is read of bytes. No program is in sight.
  Chapter 29: the fields of a ride, their ranges, the text of a ride, the bytes of a link; of the program and of its reference, walked.
  Chapter 29: the text of a ride, the bytes of a link, the frame of a ride; of the program and of its reference, walked.
  Chapter 29: a frame behind a link, of the program (write) and of its reference (frame), walked.
  Chapter 29: Write of the program and of its reference, walked.
-/
import Derived.Test.YtedeggjefnpjgaaDvB
import Derived.Test.YtedeggjefnpjgaaDvA
import Derived.Test.YtedeggjefnpjgaaDvC
import Derived.Test.YtedeggjefnpjgaaStV
import Derived.Test.YtedeggjefnpjgaaStrO
namespace Go.Proofs.Ytedeggjefnpjgaa

section
structure Rd where
  gate : Int
  seq : Int
  ser : Int
  cnt : Int
  prod : Int
  lift : Int
  att : Int
def Rd.fs (r : Rd) : List Int := [r.gate, r.seq, r.ser, r.cnt, r.prod, r.lift, r.att]
theorem Rd.fs_len (r : Rd) : r.fs.length = 7 := rfl
theorem Rd.ext_fs {r s : Rd} (h : r.fs = s.fs) : r = s := by
  cases r; cases s
  simp only [Rd.fs, List.cons.injEq, and_true] at h
  simp_all
def inR (x : Int) : Bool := decide (0 ≤ x) && decide (x ≤ 20000000)
theorem inR_iff {x : Int} : inR x = true ↔ 0 ≤ x ∧ x ≤ 20000000 := by simp [inR]
def okB (r : Rd) : Bool := r.fs.all inR
theorem okB_iff {r : Rd} : okB r = true ↔ ∀ x ∈ r.fs, 0 ≤ x ∧ x ≤ 20000000 := by
  unfold okB
  rw [List.all_eq_true]
  exact forall_congr' fun x => imp_congr_right fun _ => inR_iff
def textR (r : Rd) : List UInt8 := putsN r.fs
def be8 (n : Nat) : List UInt8 := [UInt8.ofNat (n / 72057594037927936), UInt8.ofNat (n / 281474976710656), UInt8.ofNat (n / 1099511627776), UInt8.ofNat (n / 4294967296), UInt8.ofNat (n / 16777216), UInt8.ofNat (n / 65536), UInt8.ofNat (n / 256), UInt8.ofNat n]
theorem be8_len (n : Nat) : (be8 n).length = 8 := rfl
/-- the number of bytes, the highest one first -/
def deN (l : List UInt8) : Nat := l.foldl (fun s c => s * 256 + c.toNat) 0
theorem deN_snoc (l : List UInt8) (c : UInt8) : deN (l ++ [c]) = deN l * 256 + c.toNat := by simp [deN]
theorem deN_snocs (n : Nat) : ∀ (l : List UInt8), l.length = n + 1 → ∃ k c, l = k ++ [c] ∧ k.length = n := fun l h => by
  have hne : l ≠ [] := by intro e; subst e; simp at h
  exact ⟨l.dropLast, l.getLast hne, (List.dropLast_concat_getLast hne).symm, by simp [h]⟩
theorem deN_ltn (n : Nat) : ∀ (l : List UInt8), l.length = n → deN l < 256 ^ n := by
  induction n with
  | zero => intro l h; rw [List.eq_nil_of_length_eq_zero h]; simp [deN]
  | succ n ih =>
    intro l h
    obtain ⟨k, c, rfl, hk⟩ := deN_snocs n l h
    have := ih k hk
    have := UInt8.toNat_lt c
    rw [deN_snoc, Nat.pow_succ]
    omega
theorem deN_lt (l : List UInt8) : deN l < 256 ^ l.length := deN_ltn _ l rfl
theorem deN_injn (n : Nat) : ∀ (l r : List UInt8), l.length = n → r.length = n → deN l = deN r → l = r := by
  induction n with
  | zero => intro l r h1 h2 _; rw [List.eq_nil_of_length_eq_zero h1, List.eq_nil_of_length_eq_zero h2]
  | succ n ih =>
    intro l r hl hr h
    obtain ⟨k, c, rfl, hk⟩ := deN_snocs n l hl
    obtain ⟨m, d, rfl, hm⟩ := deN_snocs n r hr
    rw [deN_snoc, deN_snoc] at h
    have h1 := UInt8.toNat_lt c
    have h2 := UInt8.toNat_lt d
    have e1 : deN k = deN m := by omega
    have e2 : c.toNat = d.toNat := by omega
    rw [ih k m hk hm e1, toNat_ext e2]
theorem deN_inj (l r : List UInt8) (hl : l.length = r.length) (h : deN l = deN r) : l = r := deN_injn r.length l r hl rfl h
theorem u8_mod (n : Nat) : (UInt8.ofNat n).toNat = n % 256 := by simp [UInt8.toNat_ofNat']
theorem deN_be8 (n : Nat) (h : n < 18446744073709551616) : deN (be8 n) = n := by
  unfold deN be8
  simp only [List.foldl_cons, List.foldl_nil, u8_mod]
  omega
theorem be8_iff (l : List UInt8) (h : l.length = 8) (n : Nat) (hn : n < 18446744073709551616) : l = be8 n ↔ deN l = n :=
  ⟨fun e => by rw [e, deN_be8 n hn], fun e => deN_inj _ _ (by rw [h, be8_len]) (by rw [deN_be8 n hn, e])⟩

def lnkR (lk : Nat) (r : Rd) : Nat := tagN lk (textR r)
theorem lnkR_lt (lk : Nat) (r : Rd) : lnkR lk r < 18446744073709551616 := tagN_lt _ _
def bodyR (lk : Nat) (r : Rd) : List UInt8 := textR r ++ be8 (lnkR lk r)
def frmR (lk : Nat) (r : Rd) : List UInt8 := frameN (bodyR lk r)
/-- the bytes of rides behind a link -/
def wrR : Nat → List Rd → List UInt8
  | _, [] => []
  | lk, r :: l => frmR lk r ++ wrR (lnkR lk r) l
/-- the link behind rides -/
def lkR : Nat → List Rd → Nat
  | lk, [] => lk
  | lk, r :: l => lkR (lnkR lk r) l
theorem lkR_lt : ∀ (l : List Rd) (lk : Nat), lk < 18446744073709551616 → lkR lk l < 18446744073709551616
  | [], _, h => h
  | _ :: l, _, _ => lkR_lt l _ (lnkR_lt _ _)
theorem wrR_append : ∀ (l m : List Rd) (lk : Nat), wrR lk (l ++ m) = wrR lk l ++ wrR (lkR lk l) m
  | [], _, _ => rfl
  | r :: l, m, lk => by rw [List.cons_append, wrR, wrR, lkR, wrR_append l m, List.append_assoc]
theorem lkR_append : ∀ (l m : List Rd) (lk : Nat), lkR lk (l ++ m) = lkR (lkR lk l) m
  | [], _, _ => rfl
  | r :: l, m, lk => by rw [List.cons_append, lkR, lkR, lkR_append l m]
theorem wrR_snoc (l : List Rd) (r : Rd) (lk : Nat) : wrR lk (l ++ [r]) = wrR lk l ++ frmR (lkR lk l) r := by rw [wrR_append]; simp [wrR]
theorem lkR_snoc (l : List Rd) (r : Rd) (lk : Nat) : lkR lk (l ++ [r]) = lnkR (lkR lk l) r := by rw [lkR_append]; rfl
/-- what Write returns: the rides up to the first bad one are not told -/
def writeG (l : List Rd) : List UInt8 × Nat := if l.all okB = true then (wrR 0 l, 0) else ([], 2)

/-- the ride of seven numbers -/
def rdOf (ns : List Nat) : Rd := ⟨((ns.getD 0 0 : Nat) : Int), ((ns.getD 1 0 : Nat) : Int), ((ns.getD 2 0 : Nat) : Int), ((ns.getD 3 0 : Nat) : Int), ((ns.getD 4 0 : Nat) : Int), ((ns.getD 5 0 : Nat) : Int), ((ns.getD 6 0 : Nat) : Int)⟩
theorem seven {α : Type} (l : List α) (h : l.length = 7) : ∃ a b c d e f g, l = [a, b, c, d, e, f, g] := by
  match l, h with
  | [a, b, c, d, e, f, g], _ => exact ⟨a, b, c, d, e, f, g, rfl⟩
theorem rdOf_fs (ns : List Nat) (h : ns.length = 7) : (rdOf ns).fs = toI ns := by
  obtain ⟨a, b, c, d, e, f, g, rfl⟩ := seven ns h
  rfl
/-- the numbers of a ride -/
def natsR (r : Rd) : List Nat := r.fs.map Int.toNat
theorem natsR_len (r : Rd) : (natsR r).length = 7 := rfl
theorem toI_natsR {r : Rd} (h : okB r = true) : toI (natsR r) = r.fs := by
  unfold toI natsR
  rw [List.map_map]
  conv => rhs; rw [← List.map_id r.fs]
  refine List.map_congr_left fun x hx => ?_
  have := okB_iff.1 h x hx
  show ((x.toNat : Nat) : Int) = x
  omega
theorem rdOf_natsR {r : Rd} (h : okB r = true) : rdOf (natsR r) = r := Rd.ext_fs (by rw [rdOf_fs _ (natsR_len r), toI_natsR h])
theorem natsR_lt {r : Rd} (h : okB r = true) : ∀ x ∈ natsR r, x < 9223372036854775808 := fun x hx => by
  obtain ⟨y, hy, rfl⟩ := List.mem_map.1 hx
  have := okB_iff.1 h y hy
  omega
theorem putN_le4 (n : Nat) (h : n ≤ 20000000) : (putN n).length ≤ 4 := by
  have e : putN n = putF 3 n := putF_fuel 9 3 n (Nat.lt_of_le_of_lt h (by decide)) (Nat.lt_of_le_of_lt h (by decide))
  rw [e]
  exact (putF_len 3 n).2
theorem putsN_le4 : ∀ (l : List Int), (∀ x ∈ l, x ≤ 20000000) → (putsN l).length ≤ 4 * l.length ∧ l.length ≤ (putsN l).length
  | [], _ => by simp [putsN]
  | x :: l, h => by
    have ih := putsN_le4 l fun y hy => h y (by simp [hy])
    have h1 := putN_le4 x.toNat (by have := h x (by simp); omega)
    have h2 := (putN_len x.toNat).1
    have e : putsN (x :: l) = putN x.toNat ++ putsN l := by simp [putsN]
    rw [e, List.length_append, List.length_cons]
    omega
theorem textR_len {r : Rd} (h : okB r = true) : 7 ≤ (textR r).length ∧ (textR r).length ≤ 28 := by
  have := putsN_le4 r.fs fun x hx => (okB_iff.1 h x hx).2
  rw [Rd.fs_len] at this
  exact ⟨this.2, this.1⟩
theorem bodyR_len (lk : Nat) {r : Rd} (h : okB r = true) : 15 ≤ (bodyR lk r).length ∧ (bodyR lk r).length ≤ 36 := by
  have := textR_len h
  unfold bodyR
  rw [List.length_append, be8_len]
  omega
theorem frmR_len (lk : Nat) {r : Rd} (h : okB r = true) : (frmR lk r).length = (bodyR lk r).length + 5 := by
  have := bodyR_len lk h
  unfold frmR frameN
  rw [List.length_append, List.length_append, be4_len, putN_low _ (by omega)]
  simp; omega
theorem frmR_le (lk : Nat) {r : Rd} (h : okB r = true) : 20 ≤ (frmR lk r).length ∧ (frmR lk r).length ≤ 41 := by
  have := bodyR_len lk h
  rw [frmR_len lk h]
  omega
theorem wrR_len (l : List Rd) : ∀ (lk : Nat), (∀ r ∈ l, okB r = true) → (wrR lk l).length ≤ 41 * l.length := by
  induction l with
  | nil => intro lk _; simp [wrR]
  | cons r l ih =>
    intro lk h
    have := ih (lnkR lk r) fun s hs => h s (by simp [hs])
    have := frmR_le lk (h r (by simp))
    rw [wrR, List.length_append, List.length_cons]
    omega

/-- the ride with whose frame bytes begin behind a link, the frame's length, and the ride's link -/
def nextR (lk : Nat) (b : List UInt8) : Option (Rd × Nat × Nat) :=
  if (unfG b).2.2 ≠ 0 then none else if (numsG (unfG b).1 7 0 []).2.2 ≠ 0 then none else if okB (rdOf (numsG (unfG b).1 7 0 []).1) = false then none else
  if (unfG b).1.drop (numsG (unfG b).1 7 0 []).2.1 ≠ be8 (tagN lk ((unfG b).1.take (numsG (unfG b).1 7 0 []).2.1)) then none else
  some (rdOf (numsG (unfG b).1 7 0 []).1, (unfG b).2.1, tagN lk ((unfG b).1.take (numsG (unfG b).1 7 0 []).2.1))
theorem nums_body (lk : Nat) {r : Rd} (h : okB r = true) : numsG (bodyR lk r) 7 0 [] = (natsR r, (textR r).length, 0) := by
  have := numsG_back [] (natsR r) (natsR_lt h) (be8 (lnkR lk r)) []
  rw [toI_natsR h, natsR_len, List.nil_append, List.nil_append, List.length_nil, Nat.zero_add] at this
  exact this
theorem nextR_unf {lk : Nat} {b : List UInt8} {r : Rd} {n lk' : Nat} (hr : okB r = true) (h : unfG b = (bodyR lk' r, n, 0)) :
    nextR lk b = if be8 (lnkR lk' r) ≠ be8 (lnkR lk r) then none else some (r, n, lnkR lk r) := by
  unfold nextR
  rw [h]
  simp only [ne_eq, not_true_eq_false, if_false]
  rw [nums_body lk' hr]
  simp only [not_true_eq_false, if_false]
  rw [rdOf_natsR hr, if_neg (by rw [hr]; simp)]
  have e1 : (bodyR lk' r).take (textR r).length = textR r := List.take_left' rfl
  have e2 : (bodyR lk' r).drop (textR r).length = be8 (lnkR lk' r) := List.drop_left' rfl
  rw [e1, e2]
  rfl
theorem nextR_back (lk : Nat) {r : Rd} (hr : okB r = true) (rest : List UInt8) : nextR lk (frmR lk r ++ rest) = some (r, (frmR lk r).length, lnkR lk r) := by
  have h6 := (bodyR_len lk hr).2
  rw [nextR_unf hr (show unfG (frmR lk r ++ rest) = _ from unfG_back (bodyR lk r) rest (by omega)), if_neg (by simp)]
  rfl
/-- behind another link: nothing, unless the two links of the ride are equal -/
theorem nextR_other (lk lk' : Nat) {r : Rd} (hr : okB r = true) (rest : List UInt8) (hlk : lk < 18446744073709551616) (hlk' : lk' < 18446744073709551616) (hne : lk ≠ lk') : nextR lk (frmR lk' r ++ rest) = none := by
  have h6 := (bodyR_len lk' hr).2
  rw [nextR_unf hr (show unfG (frmR lk' r ++ rest) = _ from unfG_back (bodyR lk' r) rest (by omega)), if_pos]
  intro e
  have e2 : lnkR lk' r = lnkR lk r := by rw [← deN_be8 _ (lnkR_lt lk' r), e, deN_be8 _ (lnkR_lt lk r)]
  have := textR_len hr
  exact hne (tagN_key lk lk' hlk hlk' (textR r) (by omega) e2.symm)
theorem nextR_form {lk : Nat} {b : List UInt8} {r : Rd} {n lk' : Nat} (h : nextR lk b = some (r, n, lk')) : okB r = true ∧ frmR lk r = b.take n ∧ n ≤ b.length ∧ n = (frmR lk r).length ∧ lk' = lnkR lk r := by
  unfold nextR at h
  obtain ⟨bd, k, e, hu⟩ : ∃ bd k e, unfG b = (bd, k, e) := ⟨_, _, _, rfl⟩
  rw [hu] at h
  by_cases he : e = 0
  · subst he
    simp only [ne_eq, not_true_eq_false, if_false] at h
    obtain ⟨ns, at_, e2, hn⟩ : ∃ ns a e, numsG bd 7 0 [] = (ns, a, e) := ⟨_, _, _, rfl⟩
    rw [hn] at h
    by_cases he2 : e2 = 0
    · subst he2
      simp only [not_true_eq_false, if_false] at h
      obtain ⟨h5, hk, _, hfr⟩ := unfG_form hu
      obtain ⟨more, hmore, hml, _, hal, _, hput⟩ := numsG_form bd 7 0 [] ns at_ (Nat.zero_le _) hn
      have hmore' : more = ns := by simpa using hmore.symm
      clear hmore
      subst hmore'
      by_cases hok : okB (rdOf more) = false
      · rw [if_pos hok] at h; cases h
      · rw [if_neg hok] at h
        have hr : okB (rdOf more) = true := by cases hx : okB (rdOf more) <;> simp_all
        have ht : bd.take at_ = textR (rdOf more) := by
          unfold textR
          rw [rdOf_fs _ hml, hput]
          simp
        rw [ht] at h
        by_cases htl : bd.drop at_ = be8 (tagN lk (textR (rdOf more)))
        · rw [if_neg (by simpa using htl)] at h
          simp only [Option.some.injEq, Prod.mk.injEq] at h
          obtain ⟨rfl, rfl, rfl⟩ := h
          have hb : bd = bodyR lk (rdOf more) := by
            rw [← List.take_append_drop at_ bd, ht, htl]
            rfl
          have hf : frmR lk (rdOf more) = b.take k := by rw [← hfr, hb]; rfl
          exact ⟨hr, hf, hk, by rw [hf, List.length_take]; omega, rfl⟩
        · rw [if_pos (by simpa using htl)] at h; cases h
    · simp only [he2, not_false_eq_true, if_true] at h; cases h
  · simp only [ne_eq, he, not_false_eq_true, if_true] at h; cases h
/-- no frame of a ride is the front of another one -/
theorem frmR_cut (lk : Nat) {r s : Rd} (hr : okB r = true) (hs : okB s = true) (rest : List UInt8) (h : frmR lk r = frmR lk s ++ rest) : rest = [] := by
  have h1 : unfG (frmR lk s ++ rest) = (bodyR lk s, (frmR lk s).length, 0) := unfG_back (bodyR lk s) rest (by have := (bodyR_len lk hs).2; omega)
  have h2 : unfG (frmR lk r ++ []) = (bodyR lk r, (frmR lk r).length, 0) := unfG_back (bodyR lk r) [] (by have := (bodyR_len lk hr).2; omega)
  rw [List.append_nil, h, h1] at h2
  simp only [Prod.mk.injEq, and_true] at h2
  have h4 := h2.2
  have h5 := congrArg List.length h
  rw [← h] at h4
  rw [List.length_append] at h5
  exact List.eq_nil_of_length_eq_zero (by omega)
theorem nextR_torn (lk : Nat) {r : Rd} (hr : okB r = true) (k : Nat) (hk : k < (frmR lk r).length) : nextR lk ((frmR lk r).take k) = none := by
  cases h : nextR lk ((frmR lk r).take k) with
  | none => rfl
  | some x =>
    obtain ⟨s, n, lk'⟩ := x
    obtain ⟨hs, hf, hn, hl, _⟩ := nextR_form h
    rw [List.length_take] at hn
    rw [List.take_take] at hf
    have e : frmR lk r = frmR lk s ++ (frmR lk r).drop (min n k) := by rw [hf, List.take_append_drop]
    have h2 := congrArg List.length (frmR_cut lk hr hs _ e)
    rw [List.length_drop, List.length_nil] at h2
    omega

/-- what is read: the rides, how many bytes they take, the last link; f: how many may still be read -/
def scanF : Nat → Nat → List UInt8 → List Rd × Nat × Nat
  | 0, lk, _ => ([], 0, lk)
  | f + 1, lk, b => match nextR lk b with
    | none => ([], 0, lk)
    | some (r, n, lk') => (r :: (scanF f lk' (b.drop n)).1, n + (scanF f lk' (b.drop n)).2.1, (scanF f lk' (b.drop n)).2.2)
def scanR (lk : Nat) (b : List UInt8) : List Rd × Nat × Nat := scanF b.length lk b
theorem unfG_nil : unfG [] = ([], 0, 5) := by
  have : getN [] = (0, 0, 5) := rfl
  unfold unfG
  rw [this]
  rfl
theorem nextR_nil (lk : Nat) : nextR lk [] = none := by
  unfold nextR
  rw [unfG_nil]
  rfl
theorem scanF_none {lk : Nat} {b : List UInt8} (h : nextR lk b = none) : ∀ f, scanF f lk b = ([], 0, lk)
  | 0 => rfl
  | f + 1 => by rw [scanF, h]
theorem scanF_fuel : ∀ (f g lk : Nat) (b : List UInt8), b.length ≤ f → b.length ≤ g → scanF f lk b = scanF g lk b
  | 0, g, lk, b, h1, _ => by
    have : b = [] := List.eq_nil_of_length_eq_zero (by omega)
    subst this
    rw [scanF_none (nextR_nil lk), scanF_none (nextR_nil lk)]
  | f, 0, lk, b, _, h2 => by
    have : b = [] := List.eq_nil_of_length_eq_zero (by omega)
    subst this
    rw [scanF_none (nextR_nil lk), scanF_none (nextR_nil lk)]
  | f + 1, g + 1, lk, b, h1, h2 => by
    rw [scanF, scanF]
    cases h : nextR lk b with
    | none => rfl
    | some x =>
      obtain ⟨r, n, lk'⟩ := x
      obtain ⟨hr, _, hn, hl, _⟩ := nextR_form h
      have := (frmR_le lk hr).1
      dsimp only
      rw [scanF_fuel f g lk' (b.drop n) (by rw [List.length_drop]; omega) (by rw [List.length_drop]; omega)]
theorem scanR_none {lk : Nat} {b : List UInt8} (h : nextR lk b = none) : scanR lk b = ([], 0, lk) := scanF_none h _
theorem scanR_nil (lk : Nat) : scanR lk [] = ([], 0, lk) := scanR_none (nextR_nil lk)
theorem scanR_some {lk : Nat} {b : List UInt8} {r : Rd} {n lk' : Nat} (h : nextR lk b = some (r, n, lk')) : scanR lk b = (r :: (scanR lk' (b.drop n)).1, n + (scanR lk' (b.drop n)).2.1, (scanR lk' (b.drop n)).2.2) := by
  obtain ⟨hr, _, hn, hl, _⟩ := nextR_form h
  have := (frmR_le lk hr).1
  unfold scanR
  obtain ⟨m, hm⟩ : ∃ m, b.length = m + 1 := ⟨b.length - 1, by omega⟩
  rw [hm, scanF, h]
  dsimp only
  rw [scanF_fuel m (b.drop n).length lk' (b.drop n) (by rw [List.length_drop]; omega) (Nat.le_refl _)]
/-- behind the bytes of rides the reading goes on -/
theorem scanR_app (l : List Rd) : ∀ (lk : Nat) (rest : List UInt8), (∀ r ∈ l, okB r = true) →
    scanR lk (wrR lk l ++ rest) = (l ++ (scanR (lkR lk l) rest).1, (wrR lk l).length + (scanR (lkR lk l) rest).2.1, (scanR (lkR lk l) rest).2.2) := by
  induction l with
  | nil => intro lk rest _; simp [wrR, lkR]
  | cons r l ih =>
    intro lk rest h
    have hr := h r (by simp)
    rw [wrR, List.append_assoc, scanR_some (nextR_back lk hr _), List.drop_left' rfl, ih (lnkR lk r) rest fun s hs => h s (by simp [hs])]
    simp only [lkR, List.length_append, List.cons_append, Nat.add_assoc]
theorem scanR_back (l : List Rd) (lk : Nat) (h : ∀ r ∈ l, okB r = true) : scanR lk (wrR lk l) = (l, (wrR lk l).length, lkR lk l) := by
  have := scanR_app l lk [] h
  rw [List.append_nil, scanR_nil] at this
  simpa using this
/-- what was read is just what stands there -/
theorem scanR_form (n : Nat) : ∀ (lk : Nat) (b : List UInt8), b.length ≤ n → ∃ l s, scanR lk b = (l, s, lkR lk l) ∧ (∀ r ∈ l, okB r = true) ∧ wrR lk l = b.take s ∧ s ≤ b.length ∧ s = (wrR lk l).length ∧ nextR (lkR lk l) (b.drop s) = none := by
  induction n with
  | zero =>
    intro lk b hb
    have : b = [] := List.eq_nil_of_length_eq_zero (by omega)
    subst this
    exact ⟨[], 0, scanR_nil lk, by simp, by simp [wrR], Nat.le_refl _, rfl, nextR_nil lk⟩
  | succ n ih =>
    intro lk b hb
    cases h : nextR lk b with
    | none => exact ⟨[], 0, scanR_none h, by simp, by simp [wrR], Nat.zero_le _, rfl, by simpa [lkR] using h⟩
    | some x =>
      obtain ⟨r, k, lk'⟩ := x
      obtain ⟨hr, hf, hk, hl, rfl⟩ := nextR_form h
      have h20 := (frmR_le lk hr).1
      obtain ⟨l, s, h1, h2, h3, h4, h5, h6⟩ := ih (lnkR lk r) (b.drop k) (by rw [List.length_drop]; omega)
      rw [List.length_drop] at h4
      refine ⟨r :: l, k + s, ?_, ?_, ?_, by omega, ?_, ?_⟩
      · rw [scanR_some h, h1]; rfl
      · intro x hx
        rcases List.mem_cons.1 hx with rfl | hx
        · exact hr
        · exact h2 x hx
      · rw [wrR, h3, hf, List.take_add]
      · rw [wrR, List.length_append, ← hl, ← h5]
      · rw [← List.drop_drop]; exact h6
/-- cut off anywhere: the rides before the cut -/
theorem scanR_torn (l : List Rd) : ∀ (lk k : Nat), (∀ r ∈ l, okB r = true) → k ≤ (wrR lk l).length →
    ∃ j, j ≤ l.length ∧ scanR lk ((wrR lk l).take k) = (l.take j, (wrR lk (l.take j)).length, lkR lk (l.take j)) ∧ (wrR lk (l.take j)).length ≤ k ∧ (j < l.length → k < (wrR lk (l.take (j + 1))).length) := by
  induction l with
  | nil =>
    intro lk k _ hk
    exact ⟨0, Nat.le_refl _, by simp [wrR, scanR_nil, lkR], by simp [wrR], by simp⟩
  | cons r l ih =>
    intro lk k h hk
    have hr := h r (by simp)
    rcases Nat.lt_or_ge k (frmR lk r).length with hlt | hge
    · refine ⟨0, Nat.zero_le _, ?_, by simp [wrR], fun _ => ?_⟩
      · rw [wrR, List.take_append_of_le_length (by omega), scanR_none (nextR_torn lk hr k hlt)]
        simp [wrR, lkR]
      · simpa [wrR] using hlt
    · rw [wrR, List.length_append] at hk
      obtain ⟨j, hj, h1, h2, h3⟩ := ih (lnkR lk r) (k - (frmR lk r).length) (fun s hs => h s (by simp [hs])) (by omega)
      refine ⟨j + 1, by simpa using hj, ?_, ?_, ?_⟩
      · have e : (wrR lk (r :: l)).take k = frmR lk r ++ (wrR (lnkR lk r) l).take (k - (frmR lk r).length) := by
          rw [wrR, List.take_append, List.take_of_length_le hge]
        rw [e, scanR_some (nextR_back lk hr _), List.drop_left' rfl, h1]
        simp only [List.take_succ_cons, wrR, lkR, List.length_append]
      · rw [List.take_succ_cons, wrR, List.length_append]; omega
      · intro hlt
        have := h3 (by simpa using hlt)
        rw [List.take_succ_cons, wrR, List.length_append]
        omega
end

section
open Go.RowKit

/-- the cells of the fields -/
def fsV (r : Rd) : Array Value := (r.fs.map (Value.int .i64)).toArray
theorem fsV_list (r : Rd) : (fsV r).toList = r.fs.map (Value.int .i64) := rfl
theorem fsV_size (r : Rd) : (fsV r).size = 7 := rfl
theorem fs_at (r : Rd) (k : Nat) (hk : k < 7) : (fsV r)[k]? = some (.int .i64 (r.fs.getD k 0)) := by
  have hl : k < r.fs.length := hk
  unfold fsV
  simp [List.getElem?_eq_getElem hl]
theorem fs_index (r : Rd) (k : Nat) (hk : k < 7) (W : World) : (Instr.index 103 (.agg (fsV r)) (.int .i64 (k : Int))).run Try.prog W = .ok (.int .i64 (r.fs.getD k 0)) W := by
  obtain ⟨gate, seq, ser, cnt, prod, lift, att⟩ := r
  match k, hk with
  | 0, _ => show _ = _; kernel_rfl
  | 1, _ => show _ = _; kernel_rfl
  | 2, _ => show _ = _; kernel_rfl
  | 3, _ => show _ = _; kernel_rfl
  | 4, _ => show _ = _; kernel_rfl
  | 5, _ => show _ = _; kernel_rfl
  | 6, _ => show _ = _; kernel_rfl

set_option maxRecDepth 100000 in
theorem fields_any (r : Rd) (w : World) :
    Calls Try.prog 55 #[.agg #[.int .i64 r.gate, .int .i64 r.seq, .int .i64 r.ser, .int .i64 r.cnt, .int .i64 r.prod, .int .i64 r.lift, .int .i64 r.att]] w fun e w' => e = .returned (.agg (fsV r)) ∧ Below w.heap.size w w' := by
  obtain ⟨gate, seq, ser, cnt, prod, lift, att⟩ := r
  have HB : Hid (Blk ((w.alloc (.cells #[.int .i64 gate, .int .i64 seq, .int .i64 ser, .int .i64 cnt, .int .i64 prod, .int .i64 lift, .int .i64 att] 55)).alloc (.cells #[.int .i64 0, .int .i64 0, .int .i64 0, .int .i64 0, .int .i64 0, .int .i64 0, .int .i64 0] 103)) (w.heap.size + 1) 103 #[.int .i64 0, .int .i64 0, .int .i64 0, .int .i64 0, .int .i64 0, .int .i64 0, .int .i64 0]) := by
    have h := Blk.new (w.alloc (.cells #[.int .i64 gate, .int .i64 seq, .int .i64 ser, .int .i64 cnt, .int .i64 prod, .int .i64 lift, .int .i64 att] 55)) 103 #[.int .i64 0, .int .i64 0, .int .i64 0, .int .i64 0, .int .i64 0, .int .i64 0, .int .i64 0]
    have e : ∀ o, (w.alloc o).heap.size = w.heap.size + 1 := fun o => by simp
    rw [e] at h
    exact hide h
  have HL : Hid (Below w.heap.size w ((w.alloc (.cells #[.int .i64 gate, .int .i64 seq, .int .i64 ser, .int .i64 cnt, .int .i64 prod, .int .i64 lift, .int .i64 att] 55)).alloc (.cells #[.int .i64 0, .int .i64 0, .int .i64 0, .int .i64 0, .int .i64 0, .int .i64 0, .int .i64 0] 103))) := hide (((Below.refl _ _).alloc (Nat.le_refl _) _).alloc (by simp) _)
  go_enter Try.func55, Try.ntmps55
  go_wp2_with
    (refine wpList_store_blk rfl 103 (.tmp 2) (.tmp 17) rfl (w.heap.size + 1) #[.int .i64 gate, .int .i64 seq, .int .i64 ser, .int .i64 cnt, .int .i64 prod, .int .i64 lift, .int .i64 att] rfl rfl _ _ HB.out (by kernel_rfl) rfl (by simp [Value.oneCell']) ?_
     intro w5 hx5 hon5
     have HX5 := Lib.hid hx5
     have HL5 := Lib.hid (hon5.below HL.out (Nat.le_succ _))
     clear hx5 hon5)
  refine bodyPost_ret (v := .agg #[.int .i64 gate, .int .i64 seq, .int .i64 ser, .int .i64 cnt, .int .i64 prod, .int .i64 lift, .int .i64 att]) (results_cell_row rfl _ _ (w.heap.size + 1) 103 _ (0, 0) _ rfl HX5.out Try.underlying103 rfl (by kernel_rfl)) rfl ⟨rfl, HL5.out⟩
/-- the first fields are in their range -/
def okK (r : Rd) (k : Nat) : Bool := (r.fs.take k).all inR
theorem okK_succ (r : Rd) (k : Nat) (hk : k < 7) : okK r (k + 1) = (okK r k && inR (r.fs.getD k 0)) := by
  have hl : k < r.fs.length := hk
  unfold okK
  rw [List.take_succ_eq_append_getElem hl, List.all_append]
  simp [List.getElem?_eq_getElem hl]
theorem okK_end (r : Rd) : okK r 7 = okB r := by
  unfold okK okB
  rw [List.take_of_length_le (by rw [Rd.fs_len]; exact Nat.le_refl _)]
theorem okB_bad {r : Rd} {k : Nat} (hk : k < 7) (h : inR (r.fs.getD k 0) = false) : okB r = false := by
  have hl : k < r.fs.length := hk
  cases hx : okB r with
  | false => rfl
  | true =>
    unfold okB at hx
    have := List.all_eq_true.1 hx (r.fs.getD k 0) (by simp [List.getElem?_eq_getElem hl])
    rw [h] at this
    cases this

set_option maxRecDepth 100000 in
set_option maxHeartbeats 1000000 in
theorem inRange_any (r : Rd) (w : World) :
    Calls Try.prog 49 #[.agg #[.int .i64 r.gate, .int .i64 r.seq, .int .i64 r.ser, .int .i64 r.cnt, .int .i64 r.prod, .int .i64 r.lift, .int .i64 r.att]] w fun e w' => e = .returned (.bool (okB r)) ∧ Below w.heap.size w w' := by
  have HF : Hid (∀ W, Calls Try.prog 55 #[.agg #[.int .i64 r.gate, .int .i64 r.seq, .int .i64 r.ser, .int .i64 r.cnt, .int .i64 r.prod, .int .i64 r.lift, .int .i64 r.att]] W fun e w' => e = .returned (.agg (fsV r)) ∧ Below W.heap.size W w') := fun W => fields_any r W
  have HI : Hid (∀ k : Nat, k < 7 → ∀ W, (Instr.index 103 (.agg (fsV r)) (.int .i64 (k : Int))).run Try.prog W = .ok (.int .i64 (r.fs.getD k 0)) W) := fun k hk W => fs_index r k hk W
  have HS : Hid (∀ k : Nat, k < 7 → okK r (k + 1) = (okK r k && inR (r.fs.getD k 0))) := fun k hk => okK_succ r k hk
  have HE : Hid (okK r 7 = okB r) := okK_end r
  have HBd : Hid (∀ k : Nat, k < 7 → inR (r.fs.getD k 0) = false → okB r = false) := fun k hk h => okB_bad hk h
  have H0 : Hid (okK r 0 = true) := rfl
  generalize fsV r = fv at *
  generalize okK r = ok at *
  generalize okB r = res at *
  generalize hfs : (fun k => r.fs.getD k 0) = fk
  have HK : Hid (∀ k, r.fs.getD k 0 = fk k) := fun k => by rw [← hfs]
  clear hfs
  obtain ⟨gate, seq, ser, cnt, prod, lift, att⟩ := r
  go_enter Try.func49, Try.ntmps49
  go_wp2_with fail
  have HBw0 := (Blk.new w 55 #[.int .i64 gate, .int .i64 seq, .int .i64 ser, .int .i64 cnt, .int .i64 prod, .int .i64 lift, .int .i64 att])
  have HLw0 := (below_new w (.cells #[.int .i64 gate, .int .i64 seq, .int .i64 ser, .int .i64 cnt, .int .i64 prod, .int .i64 lift, .int .i64 att] 55))
  have hsw0 : (w.alloc (.cells #[.int .i64 gate, .int .i64 seq, .int .i64 ser, .int .i64 cnt, .int .i64 prod, .int .i64 lift, .int .i64 att] 55)).heap.size = w.heap.size + 1 := by simp
  generalize w.alloc (.cells #[.int .i64 gate, .int .i64 seq, .int .i64 ser, .int .i64 cnt, .int .i64 prod, .int .i64 lift, .int .i64 att] 55) = w0 at HBw0 HLw0 hsw0 ⊢
  replace HBw0 := Lib.hid HBw0
  replace HLw0 := Lib.hid HLw0
  have hlw0 : w.heap.size < w0.heap.size := by omega
  replace hsw0 := Lib.hid hsw0
  have c0 : w0.cell? ⟨w.heap.size, 0, none⟩ = some (.int .i64 gate) := HBw0.out.cell 0
  have c1 : w0.cell? ⟨w.heap.size, 1, none⟩ = some (.int .i64 seq) := HBw0.out.cell 1
  have c2 : w0.cell? ⟨w.heap.size, 2, none⟩ = some (.int .i64 ser) := HBw0.out.cell 2
  have c3 : w0.cell? ⟨w.heap.size, 3, none⟩ = some (.int .i64 cnt) := HBw0.out.cell 3
  have c4 : w0.cell? ⟨w.heap.size, 4, none⟩ = some (.int .i64 prod) := HBw0.out.cell 4
  have c5 : w0.cell? ⟨w.heap.size, 5, none⟩ = some (.int .i64 lift) := HBw0.out.cell 5
  have c6 : w0.cell? ⟨w.heap.size, 6, none⟩ = some (.int .i64 att) := HBw0.out.cell 6
  go_wp2_with fail
  with_reducible refine (HF.out _).mono ?_
  rintro e w1 ⟨rfl, hb1⟩
  have HB1 := Lib.hid (HLw0.out.trans (hb1.mono HLw0.out.size))
  clear hb1 c0 c1 c2 c3 c4 c5 c6
  go_wp2_with fail
  go_loopw [7] (fun i wr => ∃ k : Nat, k ≤ 7 ∧ i = .int .i64 k ∧ ok k = true ∧ wr = w1) (fun i _ => 7 - (intOf i).toNat)
  case atStart => exact ⟨0, by omega, rfl, H0.out, rfl⟩
  case round =>
    obtain ⟨k, hk, rfl, hok, rfl⟩ := hrel
    have HOk := Lib.hid hok
    clear hok
    by_cases hlt : k < 7
    · have hidx := HI.out k hlt
      have hs := HS.out k hlt
      have hbd := HBd.out k hlt
      rw [HK.out k] at hidx hs hbd
      generalize fk k = z at *
      by_cases h1 : z < 0
      · have hd : decide (z < 0) = true := decide_eq_true h1
        have HR : Hid (res = false) := hbd (by unfold inR; simp; omega)
        clear hs hbd
        go_wp2_with fail
        go_ret
        exact ⟨by rw [HR.out]; rfl, HB1.out⟩
      · have hd : decide (z < 0) = false := decide_eq_false h1
        by_cases h2 : 20000000 < z
        · have HR : Hid (res = false) := hbd (by unfold inR; simp; omega)
          clear hs hbd
          go_wp2_with fail
          go_ret
          exact ⟨by rw [HR.out]; rfl, HB1.out⟩
        · have hd2 : decide (20000000 < z) = false := decide_eq_false h2
          have HN : Hid (ok (k + 1) = true) := by
            show _ = _
            rw [hs, HOk.out]
            unfold inR
            simp; omega
          clear hs hbd
          go_wp2_with fail
          go_roundw
          case rel => exact ⟨k + 1, by omega, by go_num, HN.out, trivial⟩
          case measure => simp [intOf]; omega
    · obtain rfl : k = 7 := by omega
      have HR : Hid (res = true) := by rw [← HE.out]; exact HOk
      go_wp2_with fail
      go_ret
      exact ⟨by rw [HR.out]; rfl, HB1.out⟩
end

section
open Go.RowKit

/-- the byte with number k of a link, the lowest one is 0 -/
def beB (T k : Nat) : UInt8 := UInt8.ofNat (T / 2 ^ (8 * k))
def beL (T : Nat) : Nat → List UInt8
  | 0 => []
  | k + 1 => beL T k ++ [beB T (7 - k)]
theorem beL_len (T : Nat) : ∀ k, (beL T k).length = k
  | 0 => rfl
  | k + 1 => by simp [beL, beL_len T k]
theorem beL_8 (T : Nat) : beL T 8 = be8 T := by
  simp [beL, beB, be8]
theorem beB_form (T k : Nat) (e : Nat) (he : e = 8 * k) : Value.int .u8 (((T : Int) / 2 ^ e) % 256) = B8 (beB T k) := by
  subst he
  have h : ((T : Int) / 2 ^ (8 * k)) % 256 = (((T / 2 ^ (8 * k)) % 256 : Nat) : Int) := by
    rw [Int.natCast_emod, Int.natCast_ediv, Int.natCast_pow]
    rfl
  rw [h, B8_of _ (Nat.mod_lt _ (by omega))]
  congr 1
  apply toNat_ext
  rw [beB, UInt8.toNat_ofNat', UInt8.toNat_ofNat']
  omega
theorem putsN_next (l : List Int) (k : Nat) (h : k < l.length) : putsN (l.take (k + 1)) = putsN (l.take k) ++ putN (l.getD k 0).toNat := by
  rw [List.take_succ_eq_append_getElem h, putsN_append]
  simp [putsN, List.getElem?_eq_getElem h]
/-- the text of the first fields -/
def txtK (r : Rd) (k : Nat) : List UInt8 := putsN (r.fs.take k)
theorem txtK_succ (r : Rd) (k : Nat) (hk : k < 7) : txtK r (k + 1) = txtK r k ++ putN (r.fs.getD k 0).toNat := putsN_next _ _ hk
theorem txtK_end (r : Rd) : txtK r 7 = textR r := by
  unfold txtK textR
  rw [List.take_of_length_le (by rw [Rd.fs_len]; exact Nat.le_refl _)]
theorem txtK_len (r : Rd) (k : Nat) : (txtK r k).length ≤ 70 := by
  have h := putsN_len (r.fs.take k)
  have h2 : (r.fs.take k).length ≤ 7 := by rw [List.length_take, Rd.fs_len]; omega
  unfold txtK
  omega
theorem fs_bd {r : Rd} (h : okB r = true) (k : Nat) (hk : k < 7) : 0 ≤ r.fs.getD k 0 ∧ r.fs.getD k 0 ≤ 20000000 := by
  have hl : k < r.fs.length := hk
  exact okB_iff.1 h _ (by simp [List.getElem?_eq_getElem hl])
end

section
open Go.RowKit

set_option maxRecDepth 100000 in
set_option maxHeartbeats 2000000 in
theorem write_any (base : Nat) (vb : Value) (b : List UInt8) (lk : Nat) (r : Rd) (w : World) (hown0 : OwnB w base vb b) (hb0 : base ≤ w.heap.size) (hbl : b.length ≤ 140737488355000) (hlk : lk < 18446744073709551616) (hok : okB r = true) :
    Calls Try.prog 50 #[vb, .agg #[.int .i64 r.gate, .int .i64 r.seq, .int .i64 r.ser, .int .i64 r.cnt, .int .i64 r.prod, .int .i64 r.lift, .int .i64 r.att], .int .u64 (lk : Int)] w fun e w' => ∃ v, e = .returned (.tuple #[v, .int .u64 ((lnkR lk r : Nat) : Int)]) ∧ OwnB w' base v (b ++ frmR lk r) ∧ Below base w w' := by
  have HF : Hid (∀ W, Calls Try.prog 55 #[.agg #[.int .i64 r.gate, .int .i64 r.seq, .int .i64 r.ser, .int .i64 r.cnt, .int .i64 r.prod, .int .i64 r.lift, .int .i64 r.att]] W fun e w' => e = .returned (.agg (fsV r)) ∧ Below W.heap.size W w') := fun W => fields_any r W
  have HI : Hid (∀ k : Nat, k < 7 → ∀ W, (Instr.index 103 (.agg (fsV r)) (.int .i64 (k : Int))).run Try.prog W = .ok (.int .i64 (r.fs.getD k 0)) W) := fun k hk W => fs_index r k hk W
  have HS : Hid (∀ k : Nat, k < 7 → txtK r (k + 1) = txtK r k ++ putN (r.fs.getD k 0).toNat) := fun k hk => txtK_succ r k hk
  have HE : Hid (txtK r 7 = textR r) := txtK_end r
  have H0 : Hid (txtK r 0 = []) := rfl
  have HLn : Hid (∀ k, (txtK r k).length ≤ 70) := txtK_len r
  have HBd : Hid (∀ k : Nat, k < 7 → 0 ≤ r.fs.getD k 0 ∧ r.fs.getD k 0 ≤ 20000000) := fun k hk => fs_bd hok k hk
  have HTl : Hid ((textR r).length ≤ 28) := (textR_len hok).2
  have HFr : Hid (frmR lk r = frameN (textR r ++ be8 (tagN lk (textR r)))) := rfl
  have HFl : Hid ((frmR lk r).length ≤ 41) := (frmR_le lk hok).2
  have HLk : Hid (lnkR lk r = tagN lk (textR r)) := rfl
  clear hok
  generalize fsV r = fv at *
  generalize txtK r = tk at *
  generalize textR r = tx at *
  generalize frmR lk r = fr at *
  generalize lnkR lk r = ln at *
  have HTlt := Lib.hid (tagN_lt lk tx)
  obtain ⟨T, hTe⟩ : ∃ T, tagN lk tx = T := ⟨_, rfl⟩
  rw [hTe] at HFr HLk HTlt
  have HTe := Lib.hid hTe
  clear hTe
  generalize hfs : (fun k => r.fs.getD k 0) = fk
  have HK : Hid (∀ k, r.fs.getD k 0 = fk k) := fun k => by rw [← hfs]
  clear hfs
  obtain ⟨bA, bn, bc, rfl, HbN, _, _, _⟩ := hown0.nam
  have HOb := Lib.hid hown0
  clear hown0
  obtain ⟨gate, seq, ser, cnt, prod, lift, att⟩ := r
  go_enter Try.func50, Try.ntmps50
  go_wp2_with fail
  have HBw0 := (Blk.new w 55 #[.int .i64 gate, .int .i64 seq, .int .i64 ser, .int .i64 cnt, .int .i64 prod, .int .i64 lift, .int .i64 att])
  have HLw0 := (below_new w (.cells #[.int .i64 gate, .int .i64 seq, .int .i64 ser, .int .i64 cnt, .int .i64 prod, .int .i64 lift, .int .i64 att] 55))
  have hsw0 : (w.alloc (.cells #[.int .i64 gate, .int .i64 seq, .int .i64 ser, .int .i64 cnt, .int .i64 prod, .int .i64 lift, .int .i64 att] 55)).heap.size = w.heap.size + 1 := by simp
  generalize w.alloc (.cells #[.int .i64 gate, .int .i64 seq, .int .i64 ser, .int .i64 cnt, .int .i64 prod, .int .i64 lift, .int .i64 att] 55) = w0 at HBw0 HLw0 hsw0 ⊢
  replace HBw0 := Lib.hid HBw0
  replace HLw0 := Lib.hid HLw0
  have hlw0 : w.heap.size < w0.heap.size := by omega
  replace hsw0 := Lib.hid hsw0
  have c0 : w0.cell? ⟨w.heap.size, 0, none⟩ = some (.int .i64 gate) := HBw0.out.cell 0
  have c1 : w0.cell? ⟨w.heap.size, 1, none⟩ = some (.int .i64 seq) := HBw0.out.cell 1
  have c2 : w0.cell? ⟨w.heap.size, 2, none⟩ = some (.int .i64 ser) := HBw0.out.cell 2
  have c3 : w0.cell? ⟨w.heap.size, 3, none⟩ = some (.int .i64 cnt) := HBw0.out.cell 3
  have c4 : w0.cell? ⟨w.heap.size, 4, none⟩ = some (.int .i64 prod) := HBw0.out.cell 4
  have c5 : w0.cell? ⟨w.heap.size, 5, none⟩ = some (.int .i64 lift) := HBw0.out.cell 5
  have c6 : w0.cell? ⟨w.heap.size, 6, none⟩ = some (.int .i64 att) := HBw0.out.cell 6
  go_wp2_with fail
  with_reducible refine (HF.out _).mono ?_
  rintro e w1 ⟨rfl, hb1⟩
  have HB1 := Lib.hid (HLw0.out.trans (hb1.mono HLw0.out.size))
  have hl1 : w.heap.size ≤ w1.heap.size := HB1.out.size
  clear hb1 c0 c1 c2 c3 c4 c5 c6
  go_wp2_with fail
  go_loopw [8, 14] (fun v i wr => ∃ k : Nat, k ≤ 7 ∧ i = .int .i64 k ∧ OwnB wr w1.heap.size v (tk k) ∧ Below w1.heap.size w1 wr) (fun _ i _ => 7 - (intOf i).toNat)
  case atStart => exact ⟨0, by omega, rfl, by rw [H0.out]; exact OwnB.nil _ _, Below.refl _ _⟩
  case round =>
    obtain ⟨k, hk, rfl, hown, hbr⟩ := hrel
    obtain ⟨wo, rfl⟩ : ∃ wo : World, wo = wr := ⟨_, rfl⟩
    obtain ⟨A, n, c, rfl, HN, hc1, hc2, hr⟩ := hown.nam
    have HO := Lib.hid hown
    have HR := Lib.hid hr
    have HB := Lib.hid hbr
    have hn70 : n ≤ 70 := by rw [← HN.out]; exact HLn.out k
    have hsz := hbr.size
    clear hown hr hbr
    by_cases hlt : k < 7
    · have hidx := HI.out k hlt
      have hs := HS.out k hlt
      have hz := HBd.out k hlt
      rw [HK.out k] at hidx hs hz
      have HT := Lib.hid hs
      clear hs
      generalize fk k = z at *
      go_wp2_with fail
      with_reducible refine (Put_any A n c _ _ z z.toNat _ HR.out (by omega) (Nat.le_refl _) (by omega) rfl).mono ?_
      rintro e w3 ⟨v3, rfl, hown3, hb3⟩
      have HO3 : Hid (OwnB w3 w1.heap.size v3 (tk (k + 1))) := by
        show OwnB _ _ _ _
        rw [HT.out]
        exact hown3.mono hsz
      have HB3 := Lib.hid (HB.out.trans (hb3.mono hsz))
      clear hown3 hb3
      go_wp2_with fail
      go_roundw
      case rel => exact ⟨k + 1, by omega, by go_num, HO3.out, HB3.out⟩
      case measure => simp [intOf]; omega
    · obtain rfl : k = 7 := by omega
      have HOx : Hid (OwnB wo w1.heap.size (.slice A n c) tx) := by
        show OwnB _ _ _ _
        rw [← HE.out]
        exact HO.out
      have HNx : Hid (tx.length = n) := by rw [← HE.out]; exact HN
      have HRx : Hid (Bytes wo wo.heap.size A n tx) := by rw [← HE.out]; exact HR
      have HB7 := Lib.hid (HB1.out.trans (HB.out.mono HB1.out.size))
      clear HO HN HR
      go_wp2_with fail
      with_reducible refine (chain_any (lk : Int) (by omega) (by omega) A n c _ tx _ HRx.out hc1 (by omega)).mono ?_
      rintro e w' ⟨rfl, rfl⟩
      rw [Int.toNat_natCast, HTe.out]
      have hT2 := HTlt.out
      go_wp2_with fail
      go_loopw [8, 11] (fun v i wr => ∃ k : Nat, k ≤ 8 ∧ i = .int .i64 (7 - (k : Int)) ∧ OwnB wr w1.heap.size v (tx ++ beL T k) ∧ Below w1.heap.size w1 wr) (fun _ i _ => (intOf i + 1).toNat)
      case atStart => exact ⟨0, by omega, rfl, by rw [beL, List.append_nil]; exact HOx.out, HB.out⟩
      case round =>
        obtain ⟨k, hk, rfl, hown, hbr⟩ := hrel
        obtain ⟨wi, rfl⟩ : ∃ wi : World, wi = wr := ⟨_, rfl⟩
        have HBi := Lib.hid hbr
        obtain ⟨A3, n3, c3, rfl, HN3, hc31, hc32, hr3⟩ := hown.nam
        have hn3 : n3 ≤ 36 := by rw [← HN3.out, List.length_append, beL_len]; have := HTl.out; omega
        have HO := Lib.hid (hown.row HN3.out)
        have HRd := Lib.hid hr3
        have hszi := hbr.size
        clear hown hbr hr3
        by_cases hlt : k < 8
        · obtain ⟨j, hj⟩ : ∃ j : Nat, 7 - (k : Int) = (j : Int) := ⟨7 - k, by omega⟩
          rw [hj]
          have hj7 : j ≤ 7 := by omega
          have hjk : j = 7 - k := by omega
          have HJ := Lib.hid hj
          have HJK := Lib.hid hjk
          clear hj hjk
          go_wp2_with
            (at_builtin
             refine wpList_app_lit ei_byte rfl (.tmp 28) (.tmp 34) rfl w1.heap.size (.slice A3 n3 c3) n3 ((tx ++ beL T k).map B8) rfl HO.out 1 rfl rfl (by simp [Value.oneCell']) (by simp only [maxLen]; omega) (by omega) (by omega) ?_
             intro v4 w4 hown4 hb4 hg4 hat4
             have HO4 := Lib.hid hown4
             have HB4 := Lib.hid (HBi.out.trans hb4)
             clear hown4 hb4 hg4 hat4)
          go_roundw
          case rel =>
            have hF := beB_form T j (8 * j) rfl
            have hJ := HJK.out
            subst hJ
            refine ⟨k + 1, by omega, ?_, ?_, HB4.out⟩
            · have := HJ.out
              congr 1
              omega
            · refine OwnB.mk' HO4.out ?_ ?_
              · rw [List.length_append, beL_len, ← HN3.out, List.length_append, beL_len]
                omega
              · show _ ++ [_] = _
                rw [hF, beL, ← List.append_assoc]
                simp
          case measure => simp [intOf]
        · obtain rfl : k = 8 := by omega
          have HB8 := Lib.hid (HB1.out.trans (HBi.out.mono HB1.out.size))
          go_wp2_with fail
          with_reducible refine (frame_any A3 n3 c3 _ _ HRd.out (by omega)).mono ?_
          rintro e w5 ⟨v5, rfl, hown5, hb5⟩
          have HB9 := Lib.hid (HB8.out.trans (hb5.mono HB8.out.size))
          have HO5 : Hid (OwnB w5 wi.heap.size v5 fr) := by
            show OwnB _ _ _ _
            rw [HFr.out, ← beL_8]
            exact hown5
          obtain ⟨A5, n5, c5, rfl, HN5, _, _, hr5⟩ := HO5.out.nam
          have hn5 : n5 ≤ 41 := by rw [← HN5.out]; exact HFl.out
          have HR5 := Lib.hid hr5
          have HOb5 := Lib.hid (OwnB.row (own_below HOb.out HB9.out (Nat.le_refl _)) HbN.out)
          have hsz5 : w.heap.size ≤ w5.heap.size := HB9.out.size
          have hbn : bn ≤ 140737488355000 := by rw [← HbN.out]; exact hbl
          clear hown5 hb5 hr5
          go_wp2_with
            (at_builtin
             refine wpList_app _ ei_byte rfl (.tmp 36) (.tmp 38) rfl base (.slice bA bn bc) bn (b.map B8) rfl HOb5.out w5.heap.size A5 n5 c5 (fr.map B8) rfl HR5.out (by intro u hu; obtain ⟨x, _, rfl⟩ := List.mem_map.1 hu; rfl) (by simp only [maxLen]; omega) (by omega) (by omega) ?_
             intro v6 w6 hown6 hg6 hbw6 hat6
             have HO6 : Hid (OwnB w6 base v6 (b ++ fr)) := hide (OwnB.mk' hown6 (by rw [List.length_append, HbN.out, HN5.out]) (by simp))
             have HB6 := Lib.hid ((HB9.out.mono hb0).trans hbw6)
             clear hown6 hg6 hbw6 hat6)
          go_ret2
          exact ⟨_, by rw [HLk.out]; rfl, HO6.out, HB6.out⟩
end

section
open Go.RowKit

abbrev Rd.cells (r : Rd) : List Value := [.int .i64 r.gate, .int .i64 r.seq, .int .i64 r.ser, .int .i64 r.cnt, .int .i64 r.prod, .int .i64 r.lift, .int .i64 r.att]
def rd0 : Rd := ⟨0, 0, 0, 0, 0, 0, 0⟩
theorem rd_at {l : List Rd} {k : Nat} (h : k < l.length) : l.take (k + 1) = l.take k ++ [l.getD k rd0] := by
  rw [List.take_succ_eq_append_getElem h]
  simp [List.getElem?_eq_getElem h]
theorem rd_mem {l : List Rd} {k : Nat} (h : k < l.length) : l.getD k rd0 ∈ l := by simp [List.getElem?_eq_getElem h]
theorem writeG_bad {l : List Rd} {r : Rd} (hm : r ∈ l) (h : okB r = false) : writeG l = ([], 2) := by
  unfold writeG
  rw [if_neg]
  intro hall
  have := List.all_eq_true.1 hall r hm
  rw [h] at this
  cases this
theorem writeG_ok {l : List Rd} (h : l.all okB = true) : writeG l = (wrR 0 l, 0) := by unfold writeG; rw [if_pos h]
theorem all_next {l : List Rd} {r : Rd} (h : l.all okB = true) (hr : okB r = true) : (l ++ [r]).all okB = true := by simp [h, hr]

set_option maxRecDepth 100000 in
set_option maxHeartbeats 2000000 in
theorem Write_any (v : Value) (l : List Rd) (w : World) (hv : StrV Rd.cells 7 w w.heap.size v l) (hlen : l.length ≤ 3000000000000) :
    Calls Try.prog 31 #[v] w fun e w' => ∃ x, e = .returned (.tuple #[x, .int .i64 (((writeG l).2 : Nat) : Int)]) ∧ OwnB w' w.heap.size x (writeG l).1 ∧ Below w.heap.size w w' := by
  obtain ⟨A, n, c, rfl, HN, hc1, hc2, hr⟩ := hv.nam
  have HR := Lib.hid hr
  have hn : n ≤ 3000000000000 := by rw [← HN.out]; exact hlen
  have HBad : Hid (∀ r ∈ l, okB r = false → writeG l = ([], 2)) := fun r hm h => writeG_bad hm h
  have HOk : Hid (l.all okB = true → writeG l = (wrR 0 l, 0)) := writeG_ok
  have HWl : Hid (∀ k : Nat, (l.take k).all okB = true → (wrR 0 (l.take k)).length ≤ 41 * k) := fun k h => by
    have h1 := wrR_len (l.take k) 0 fun r hr => List.all_eq_true.1 h r hr
    have h2 : (l.take k).length ≤ k := by rw [List.length_take]; exact Nat.min_le_left _ _
    omega
  obtain ⟨wg, hwg⟩ : ∃ x, writeG l = x := ⟨_, rfl⟩
  rw [hwg] at HBad HOk ⊢
  clear hwg hv hr hlen
  go_enter Try.func31, Try.ntmps31
  go_wp2_with fail
  go_loopw [4, 5, 10] (fun vb lk i wr => ∃ k : Nat, k ≤ n ∧ i = .int .i64 k ∧ lk = .int .u64 ((lkR 0 (l.take k) : Nat) : Int) ∧ (l.take k).all okB = true ∧ OwnB wr w.heap.size vb (wrR 0 (l.take k)) ∧ Below w.heap.size w wr) (fun _ _ i _ => n - (intOf i).toNat)
  case atStart => exact ⟨0, by omega, rfl, rfl, rfl, OwnB.nil _ _, Below.refl _ _⟩
  case round =>
    obtain ⟨k, hk, rfl, rfl, hall, hown, hbr⟩ := hrel
    obtain ⟨wo, rfl⟩ : ∃ wo : World, wo = wr := ⟨_, rfl⟩
    have HAll := Lib.hid hall
    have HO := Lib.hid hown
    have HB := Lib.hid hbr
    have HW := Lib.hid (HWl.out k hall)
    have HLt := Lib.hid (lkR_lt (l.take k) 0 (by omega))
    have hsz := hbr.size
    clear hall hown hbr
    by_cases hlt : k < n
    · obtain ⟨ad, rfl, hadb, hcl⟩ := strs_at (HR.out.below HB.out) (fun _ => rfl) HN.out hlt rd0
      have hadw : ad.block < w.heap.size := hadb
      have HNx : Hid (l.take (k + 1) = l.take k ++ [l.getD k rd0]) := rd_at (by rw [HN.out]; exact hlt)
      have HMem : Hid (l.getD k rd0 ∈ l) := rd_mem (by rw [HN.out]; exact hlt)
      generalize l.getD k rd0 = r at *
      have HBd : Hid (okB r = false → wg = ([], 2)) := fun h => HBad.out r HMem.out h
      obtain ⟨ok, hok⟩ : ∃ x, okB r = x := ⟨_, rfl⟩
      obtain ⟨T, hT⟩ : ∃ T, lkR 0 (l.take k) = T := ⟨_, rfl⟩
      have HIn : Hid (∀ W, Calls Try.prog 49 #[.agg #[.int .i64 r.gate, .int .i64 r.seq, .int .i64 r.ser, .int .i64 r.cnt, .int .i64 r.prod, .int .i64 r.lift, .int .i64 r.att]] W fun e w' => e = .returned (.bool ok) ∧ Below W.heap.size W w') := fun W => by rw [← hok]; exact inRange_any r W
      have HOkr := Lib.hid hok
      have HTe := Lib.hid hT
      rw [hT] at HLt ⊢
      have HCl := Lib.hid hcl
      clear hok hT hcl
      have hcv : ∀ (W : World), Below wo.heap.size wo W → ∀ j u, (Rd.cells r)[j]? = some u → W.cell? ((ad.add (k * 7)).add j) = some u := fun W hW j u hu => (hW.cell (p := (ad.add (k * 7)).add j) (by rw [block_of_add, block_of_add]; omega)).trans (HCl.out j u hu)
      have HCv := Lib.hid hcv
      clear hcv
      cases ok with
      | true =>
        go_wp2_with (first
          | (refine wpList_load_at 55 (.tmp 12) rfl rfl (ad.add (k * 7)) rfl (Rd.cells r) (HCv.out _ (Below.refl _ _)) _ Try.underlying55 rfl (by kernel_rfl) ?_)
          | (refine wpList_store_blk rfl 55 (.tmp 7) (.tmp 13) rfl wo.heap.size #[.int .i64 r.gate, .int .i64 r.seq, .int .i64 r.ser, .int .i64 r.cnt, .int .i64 r.prod, .int .i64 r.lift, .int .i64 r.att] rfl rfl _ _ (Blk.new wo 55 #[.int .i64 0, .int .i64 0, .int .i64 0, .int .i64 0, .int .i64 0, .int .i64 0, .int .i64 0]) (by kernel_rfl) rfl (by simp [Value.oneCell']) ?_
             intro w2 hx2 hon2
             have HX2 := Lib.hid hx2
             have hb2 := hon2.below (below_new wo (.cells #[.int .i64 0, .int .i64 0, .int .i64 0, .int .i64 0, .int .i64 0, .int .i64 0, .int .i64 0] 55)) (Nat.le_refl _)
             have hs2 : wo.heap.size < w2.heap.size := hx2.lt
             have HB2 := Lib.hid (HB.out.trans (hb2.mono HB.out.size))
             have HO2 := Lib.hid (own_below HO.out hb2 (Nat.le_refl _))
             clear hx2 hon2 hb2)
          | (refine wpList_load_g 55 (.tmp 7) rfl rfl wo.heap.size rfl _ _ HX2.out _ Try.underlying55 rfl (by kernel_rfl) ?_))
        with_reducible refine (HIn.out _).mono ?_
        rintro e w3 ⟨rfl, hb3⟩
        have HX3 := Lib.hid (HX2.out.below hb3 hs2)
        have HB3 := Lib.hid (HB2.out.trans (hb3.mono HB2.out.size))
        have HO3 : Hid (OwnB w3 w.heap.size u4 (wrR 0 (l.take k))) := hide (own_below HO2.out hb3 (Nat.le_refl _))
        clear hb3
        go_wp2_with (first
          | (refine wpList_load_g 55 (.tmp 7) rfl rfl wo.heap.size rfl _ _ HX3.out _ Try.underlying55 rfl (by kernel_rfl) ?_))
        with_reducible refine (write_any w.heap.size _ (wrR 0 (l.take k)) T r _ HO3.out HB3.out.size (by have := HW.out; omega) HLt.out HOkr.out).mono ?_
        rintro e w4 ⟨v4, rfl, hown4, hb4⟩
        have HN2 : Hid (wrR 0 (l.take (k + 1)) = wrR 0 (l.take k) ++ frmR T r) := by rw [HNx.out, wrR_snoc, HTe.out]; exact hide rfl
        have HL2 : Hid (lkR 0 (l.take (k + 1)) = lnkR T r) := by rw [HNx.out, lkR_snoc, HTe.out]; exact hide rfl
        have HA2 : Hid ((l.take (k + 1)).all okB = true) := by rw [HNx.out]; exact hide (all_next HAll.out HOkr.out)
        have HO4 : Hid (OwnB w4 w.heap.size v4 (wrR 0 (l.take (k + 1)))) := by
          show OwnB _ _ _ _
          rw [HN2.out]
          exact hown4
        have HB4 := Lib.hid (HB3.out.trans hb4)
        clear hown4 hb4
        go_wp2_with fail
        go_roundw
        case rel => exact ⟨k + 1, by omega, by go_num, by rw [HL2.out], HA2.out, HO4.out, HB4.out⟩
        case measure => simp [intOf]; omega
      | false =>
        have HW2 : Hid (wg = ([], 2)) := HBd.out HOkr.out
        go_wp2_with (first
          | (refine wpList_load_at 55 (.tmp 12) rfl rfl (ad.add (k * 7)) rfl (Rd.cells r) (HCv.out _ (Below.refl _ _)) _ Try.underlying55 rfl (by kernel_rfl) ?_)
          | (refine wpList_store_blk rfl 55 (.tmp 7) (.tmp 13) rfl wo.heap.size #[.int .i64 r.gate, .int .i64 r.seq, .int .i64 r.ser, .int .i64 r.cnt, .int .i64 r.prod, .int .i64 r.lift, .int .i64 r.att] rfl rfl _ _ (Blk.new wo 55 #[.int .i64 0, .int .i64 0, .int .i64 0, .int .i64 0, .int .i64 0, .int .i64 0, .int .i64 0]) (by kernel_rfl) rfl (by simp [Value.oneCell']) ?_
             intro w2 hx2 hon2
             have HX2 := Lib.hid hx2
             have hb2 := hon2.below (below_new wo (.cells #[.int .i64 0, .int .i64 0, .int .i64 0, .int .i64 0, .int .i64 0, .int .i64 0, .int .i64 0] 55)) (Nat.le_refl _)
             have HB2 := Lib.hid (HB.out.trans (hb2.mono HB.out.size))
             clear hx2 hon2 hb2)
          | (refine wpList_load_g 55 (.tmp 7) rfl rfl wo.heap.size rfl _ _ HX2.out _ Try.underlying55 rfl (by kernel_rfl) ?_))
        with_reducible refine (HIn.out _).mono ?_
        rintro e w3 ⟨rfl, hb3⟩
        have HB3 := Lib.hid (HB2.out.trans (hb3.mono HB2.out.size))
        clear hb3
        go_wp2_with fail
        go_ret2
        exact ⟨_, by rw [HW2.out]; rfl, by rw [HW2.out]; exact OwnB.nil _ _, HB3.out⟩
    · obtain rfl : k = n := by omega
      have HLe : Hid (l.take k = l) := by show _ = _; rw [List.take_of_length_le (by rw [HN.out]; exact Nat.le_refl _)]
      have HW2 : Hid (wg = (wrR 0 l, 0)) := HOk.out (by have := HAll.out; rwa [HLe.out] at this)
      go_wp2_with fail
      go_ret2
      exact ⟨_, by rw [HW2.out]; rfl, by rw [HW2.out]; have := HO.out; rwa [HLe.out] at this, HB.out⟩
end

end Go.Proofs.Ytedeggjefnpjgaa
