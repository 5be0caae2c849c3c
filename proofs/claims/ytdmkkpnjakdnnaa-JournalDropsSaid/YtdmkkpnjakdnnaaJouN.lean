/-
  The plain law of chapter 29: rides as bytes, and what is read of bytes. No program is in sight.
-/
import Derived.Test.YtdmkkpnjakdnnaaCodecM
import Derived.Test.YtdmkkpnjakdnnaaSealN
namespace Go.Proofs.Ytdmkkpnjakdnnaa

structure Rd where
  gate : Int
  seq : Int
  ser : Int
  cnt : Int
  prod : Int
  lift : Int
  att : Int
def Rd.fs (r : Rd) : List Int := [r.gate, r.seq, r.ser, r.cnt, r.prod, r.lift, r.att]
theorem Rd.fs_len (r : Rd) : r.fs.length = 7 := rfl
theorem Rd.ext_fs {r s : Rd} (h : r.fs = s.fs) : r = s := by
  cases r; cases s
  simp only [Rd.fs, List.cons.injEq, and_true] at h
  simp_all
def inR (x : Int) : Bool := decide (0 ≤ x) && decide (x ≤ 20000000)
theorem inR_iff {x : Int} : inR x = true ↔ 0 ≤ x ∧ x ≤ 20000000 := by simp [inR]
def okB (r : Rd) : Bool := r.fs.all inR
theorem okB_iff {r : Rd} : okB r = true ↔ ∀ x ∈ r.fs, 0 ≤ x ∧ x ≤ 20000000 := by
  unfold okB
  rw [List.all_eq_true]
  exact forall_congr' fun x => imp_congr_right fun _ => inR_iff
def textR (r : Rd) : List UInt8 := putsN r.fs
def be8 (n : Nat) : List UInt8 := [UInt8.ofNat (n / 72057594037927936), UInt8.ofNat (n / 281474976710656), UInt8.ofNat (n / 1099511627776), UInt8.ofNat (n / 4294967296), UInt8.ofNat (n / 16777216), UInt8.ofNat (n / 65536), UInt8.ofNat (n / 256), UInt8.ofNat n]
theorem be8_len (n : Nat) : (be8 n).length = 8 := rfl
/-- the number of bytes, the highest one first -/
def deN (l : List UInt8) : Nat := l.foldl (fun s c => s * 256 + c.toNat) 0
theorem deN_snoc (l : List UInt8) (c : UInt8) : deN (l ++ [c]) = deN l * 256 + c.toNat := by simp [deN]
theorem deN_snocs (n : Nat) : ∀ (l : List UInt8), l.length = n + 1 → ∃ k c, l = k ++ [c] ∧ k.length = n := fun l h => by
  have hne : l ≠ [] := by intro e; subst e; simp at h
  exact ⟨l.dropLast, l.getLast hne, (List.dropLast_concat_getLast hne).symm, by simp [h]⟩
theorem deN_ltn (n : Nat) : ∀ (l : List UInt8), l.length = n → deN l < 256 ^ n := by
  induction n with
  | zero => intro l h; rw [List.eq_nil_of_length_eq_zero h]; simp [deN]
  | succ n ih =>
    intro l h
    obtain ⟨k, c, rfl, hk⟩ := deN_snocs n l h
    have := ih k hk
    have := UInt8.toNat_lt c
    rw [deN_snoc, Nat.pow_succ]
    omega
theorem deN_lt (l : List UInt8) : deN l < 256 ^ l.length := deN_ltn _ l rfl
theorem deN_injn (n : Nat) : ∀ (l r : List UInt8), l.length = n → r.length = n → deN l = deN r → l = r := by
  induction n with
  | zero => intro l r h1 h2 _; rw [List.eq_nil_of_length_eq_zero h1, List.eq_nil_of_length_eq_zero h2]
  | succ n ih =>
    intro l r hl hr h
    obtain ⟨k, c, rfl, hk⟩ := deN_snocs n l hl
    obtain ⟨m, d, rfl, hm⟩ := deN_snocs n r hr
    rw [deN_snoc, deN_snoc] at h
    have h1 := UInt8.toNat_lt c
    have h2 := UInt8.toNat_lt d
    have e1 : deN k = deN m := by omega
    have e2 : c.toNat = d.toNat := by omega
    rw [ih k m hk hm e1, toNat_ext e2]
theorem deN_inj (l r : List UInt8) (hl : l.length = r.length) (h : deN l = deN r) : l = r := deN_injn r.length l r hl rfl h
theorem u8_mod (n : Nat) : (UInt8.ofNat n).toNat = n % 256 := by simp [UInt8.toNat_ofNat']
theorem deN_be8 (n : Nat) (h : n < 18446744073709551616) : deN (be8 n) = n := by
  unfold deN be8
  simp only [List.foldl_cons, List.foldl_nil, u8_mod]
  omega
theorem be8_iff (l : List UInt8) (h : l.length = 8) (n : Nat) (hn : n < 18446744073709551616) : l = be8 n ↔ deN l = n :=
  ⟨fun e => by rw [e, deN_be8 n hn], fun e => deN_inj _ _ (by rw [h, be8_len]) (by rw [deN_be8 n hn, e])⟩

def lnkR (lk : Nat) (r : Rd) : Nat := tagN lk (textR r)
theorem lnkR_lt (lk : Nat) (r : Rd) : lnkR lk r < 18446744073709551616 := tagN_lt _ _
def bodyR (lk : Nat) (r : Rd) : List UInt8 := textR r ++ be8 (lnkR lk r)
def frmR (lk : Nat) (r : Rd) : List UInt8 := frameN (bodyR lk r)
/-- the bytes of rides behind a link -/
def wrR : Nat → List Rd → List UInt8
  | _, [] => []
  | lk, r :: l => frmR lk r ++ wrR (lnkR lk r) l
/-- the link behind rides -/
def lkR : Nat → List Rd → Nat
  | lk, [] => lk
  | lk, r :: l => lkR (lnkR lk r) l
theorem lkR_lt : ∀ (l : List Rd) (lk : Nat), lk < 18446744073709551616 → lkR lk l < 18446744073709551616
  | [], _, h => h
  | _ :: l, _, _ => lkR_lt l _ (lnkR_lt _ _)
theorem wrR_append : ∀ (l m : List Rd) (lk : Nat), wrR lk (l ++ m) = wrR lk l ++ wrR (lkR lk l) m
  | [], _, _ => rfl
  | r :: l, m, lk => by rw [List.cons_append, wrR, wrR, lkR, wrR_append l m, List.append_assoc]
theorem lkR_append : ∀ (l m : List Rd) (lk : Nat), lkR lk (l ++ m) = lkR (lkR lk l) m
  | [], _, _ => rfl
  | r :: l, m, lk => by rw [List.cons_append, lkR, lkR, lkR_append l m]
theorem wrR_snoc (l : List Rd) (r : Rd) (lk : Nat) : wrR lk (l ++ [r]) = wrR lk l ++ frmR (lkR lk l) r := by rw [wrR_append]; simp [wrR]
theorem lkR_snoc (l : List Rd) (r : Rd) (lk : Nat) : lkR lk (l ++ [r]) = lnkR (lkR lk l) r := by rw [lkR_append]; rfl
/-- what Write returns: the rides up to the first bad one are not told -/
def writeG (l : List Rd) : List UInt8 × Nat := if l.all okB = true then (wrR 0 l, 0) else ([], 2)

/-- the ride of seven numbers -/
def rdOf (ns : List Nat) : Rd := ⟨((ns.getD 0 0 : Nat) : Int), ((ns.getD 1 0 : Nat) : Int), ((ns.getD 2 0 : Nat) : Int), ((ns.getD 3 0 : Nat) : Int), ((ns.getD 4 0 : Nat) : Int), ((ns.getD 5 0 : Nat) : Int), ((ns.getD 6 0 : Nat) : Int)⟩
theorem seven {α : Type} (l : List α) (h : l.length = 7) : ∃ a b c d e f g, l = [a, b, c, d, e, f, g] := by
  match l, h with
  | [a, b, c, d, e, f, g], _ => exact ⟨a, b, c, d, e, f, g, rfl⟩
theorem rdOf_fs (ns : List Nat) (h : ns.length = 7) : (rdOf ns).fs = toI ns := by
  obtain ⟨a, b, c, d, e, f, g, rfl⟩ := seven ns h
  rfl
/-- the numbers of a ride -/
def natsR (r : Rd) : List Nat := r.fs.map Int.toNat
theorem natsR_len (r : Rd) : (natsR r).length = 7 := rfl
theorem toI_natsR {r : Rd} (h : okB r = true) : toI (natsR r) = r.fs := by
  unfold toI natsR
  rw [List.map_map]
  conv => rhs; rw [← List.map_id r.fs]
  refine List.map_congr_left fun x hx => ?_
  have := okB_iff.1 h x hx
  show ((x.toNat : Nat) : Int) = x
  omega
theorem rdOf_natsR {r : Rd} (h : okB r = true) : rdOf (natsR r) = r := Rd.ext_fs (by rw [rdOf_fs _ (natsR_len r), toI_natsR h])
theorem natsR_lt {r : Rd} (h : okB r = true) : ∀ x ∈ natsR r, x < 9223372036854775808 := fun x hx => by
  obtain ⟨y, hy, rfl⟩ := List.mem_map.1 hx
  have := okB_iff.1 h y hy
  omega
theorem putN_le4 (n : Nat) (h : n ≤ 20000000) : (putN n).length ≤ 4 := by
  have e : putN n = putF 3 n := putF_fuel 9 3 n (Nat.lt_of_le_of_lt h (by decide)) (Nat.lt_of_le_of_lt h (by decide))
  rw [e]
  exact (putF_len 3 n).2
theorem putsN_le4 : ∀ (l : List Int), (∀ x ∈ l, x ≤ 20000000) → (putsN l).length ≤ 4 * l.length ∧ l.length ≤ (putsN l).length
  | [], _ => by simp [putsN]
  | x :: l, h => by
    have ih := putsN_le4 l fun y hy => h y (by simp [hy])
    have h1 := putN_le4 x.toNat (by have := h x (by simp); omega)
    have h2 := (putN_len x.toNat).1
    have e : putsN (x :: l) = putN x.toNat ++ putsN l := by simp [putsN]
    rw [e, List.length_append, List.length_cons]
    omega
theorem textR_len {r : Rd} (h : okB r = true) : 7 ≤ (textR r).length ∧ (textR r).length ≤ 28 := by
  have := putsN_le4 r.fs fun x hx => (okB_iff.1 h x hx).2
  rw [Rd.fs_len] at this
  exact ⟨this.2, this.1⟩
theorem bodyR_len (lk : Nat) {r : Rd} (h : okB r = true) : 15 ≤ (bodyR lk r).length ∧ (bodyR lk r).length ≤ 36 := by
  have := textR_len h
  unfold bodyR
  rw [List.length_append, be8_len]
  omega
theorem frmR_len (lk : Nat) {r : Rd} (h : okB r = true) : (frmR lk r).length = (bodyR lk r).length + 5 := by
  have := bodyR_len lk h
  unfold frmR frameN
  rw [List.length_append, List.length_append, be4_len, putN_low _ (by omega)]
  simp; omega
theorem frmR_le (lk : Nat) {r : Rd} (h : okB r = true) : 20 ≤ (frmR lk r).length ∧ (frmR lk r).length ≤ 41 := by
  have := bodyR_len lk h
  rw [frmR_len lk h]
  omega
theorem wrR_len (l : List Rd) : ∀ (lk : Nat), (∀ r ∈ l, okB r = true) → (wrR lk l).length ≤ 41 * l.length := by
  induction l with
  | nil => intro lk _; simp [wrR]
  | cons r l ih =>
    intro lk h
    have := ih (lnkR lk r) fun s hs => h s (by simp [hs])
    have := frmR_le lk (h r (by simp))
    rw [wrR, List.length_append, List.length_cons]
    omega

/-- the ride with whose frame bytes begin behind a link, the frame's length, and the ride's link -/
def nextR (lk : Nat) (b : List UInt8) : Option (Rd × Nat × Nat) :=
  if (unfG b).2.2 ≠ 0 then none else if (numsG (unfG b).1 7 0 []).2.2 ≠ 0 then none else if okB (rdOf (numsG (unfG b).1 7 0 []).1) = false then none else
  if (unfG b).1.drop (numsG (unfG b).1 7 0 []).2.1 ≠ be8 (tagN lk ((unfG b).1.take (numsG (unfG b).1 7 0 []).2.1)) then none else
  some (rdOf (numsG (unfG b).1 7 0 []).1, (unfG b).2.1, tagN lk ((unfG b).1.take (numsG (unfG b).1 7 0 []).2.1))
theorem nums_body (lk : Nat) {r : Rd} (h : okB r = true) : numsG (bodyR lk r) 7 0 [] = (natsR r, (textR r).length, 0) := by
  have := numsG_back [] (natsR r) (natsR_lt h) (be8 (lnkR lk r)) []
  rw [toI_natsR h, natsR_len, List.nil_append, List.nil_append, List.length_nil, Nat.zero_add] at this
  exact this
theorem nextR_unf {lk : Nat} {b : List UInt8} {r : Rd} {n lk' : Nat} (hr : okB r = true) (h : unfG b = (bodyR lk' r, n, 0)) :
    nextR lk b = if be8 (lnkR lk' r) ≠ be8 (lnkR lk r) then none else some (r, n, lnkR lk r) := by
  unfold nextR
  rw [h]
  simp only [ne_eq, not_true_eq_false, if_false]
  rw [nums_body lk' hr]
  simp only [not_true_eq_false, if_false]
  rw [rdOf_natsR hr, if_neg (by rw [hr]; simp)]
  have e1 : (bodyR lk' r).take (textR r).length = textR r := List.take_left' rfl
  have e2 : (bodyR lk' r).drop (textR r).length = be8 (lnkR lk' r) := List.drop_left' rfl
  rw [e1, e2]
  rfl
theorem nextR_back (lk : Nat) {r : Rd} (hr : okB r = true) (rest : List UInt8) : nextR lk (frmR lk r ++ rest) = some (r, (frmR lk r).length, lnkR lk r) := by
  have h6 := (bodyR_len lk hr).2
  rw [nextR_unf hr (show unfG (frmR lk r ++ rest) = _ from unfG_back (bodyR lk r) rest (by omega)), if_neg (by simp)]
  rfl
/-- behind another link: nothing, unless the two links of the ride are equal -/
theorem nextR_other (lk lk' : Nat) {r : Rd} (hr : okB r = true) (rest : List UInt8) (hlk : lk < 18446744073709551616) (hlk' : lk' < 18446744073709551616) (hne : lk ≠ lk') : nextR lk (frmR lk' r ++ rest) = none := by
  have h6 := (bodyR_len lk' hr).2
  rw [nextR_unf hr (show unfG (frmR lk' r ++ rest) = _ from unfG_back (bodyR lk' r) rest (by omega)), if_pos]
  intro e
  have e2 : lnkR lk' r = lnkR lk r := by rw [← deN_be8 _ (lnkR_lt lk' r), e, deN_be8 _ (lnkR_lt lk r)]
  have := textR_len hr
  exact hne (tagN_key lk lk' hlk hlk' (textR r) (by omega) e2.symm)
theorem nextR_form {lk : Nat} {b : List UInt8} {r : Rd} {n lk' : Nat} (h : nextR lk b = some (r, n, lk')) : okB r = true ∧ frmR lk r = b.take n ∧ n ≤ b.length ∧ n = (frmR lk r).length ∧ lk' = lnkR lk r := by
  unfold nextR at h
  obtain ⟨bd, k, e, hu⟩ : ∃ bd k e, unfG b = (bd, k, e) := ⟨_, _, _, rfl⟩
  rw [hu] at h
  by_cases he : e = 0
  · subst he
    simp only [ne_eq, not_true_eq_false, if_false] at h
    obtain ⟨ns, at_, e2, hn⟩ : ∃ ns a e, numsG bd 7 0 [] = (ns, a, e) := ⟨_, _, _, rfl⟩
    rw [hn] at h
    by_cases he2 : e2 = 0
    · subst he2
      simp only [not_true_eq_false, if_false] at h
      obtain ⟨h5, hk, _, hfr⟩ := unfG_form hu
      obtain ⟨more, hmore, hml, _, hal, _, hput⟩ := numsG_form bd 7 0 [] ns at_ (Nat.zero_le _) hn
      have hmore' : more = ns := by simpa using hmore.symm
      clear hmore
      subst hmore'
      by_cases hok : okB (rdOf more) = false
      · rw [if_pos hok] at h; cases h
      · rw [if_neg hok] at h
        have hr : okB (rdOf more) = true := by cases hx : okB (rdOf more) <;> simp_all
        have ht : bd.take at_ = textR (rdOf more) := by
          unfold textR
          rw [rdOf_fs _ hml, hput]
          simp
        rw [ht] at h
        by_cases htl : bd.drop at_ = be8 (tagN lk (textR (rdOf more)))
        · rw [if_neg (by simpa using htl)] at h
          simp only [Option.some.injEq, Prod.mk.injEq] at h
          obtain ⟨rfl, rfl, rfl⟩ := h
          have hb : bd = bodyR lk (rdOf more) := by
            rw [← List.take_append_drop at_ bd, ht, htl]
            rfl
          have hf : frmR lk (rdOf more) = b.take k := by rw [← hfr, hb]; rfl
          exact ⟨hr, hf, hk, by rw [hf, List.length_take]; omega, rfl⟩
        · rw [if_pos (by simpa using htl)] at h; cases h
    · simp only [he2, not_false_eq_true, if_true] at h; cases h
  · simp only [ne_eq, he, not_false_eq_true, if_true] at h; cases h
/-- no frame of a ride is the front of another one -/
theorem frmR_cut (lk : Nat) {r s : Rd} (hr : okB r = true) (hs : okB s = true) (rest : List UInt8) (h : frmR lk r = frmR lk s ++ rest) : rest = [] := by
  have h1 : unfG (frmR lk s ++ rest) = (bodyR lk s, (frmR lk s).length, 0) := unfG_back (bodyR lk s) rest (by have := (bodyR_len lk hs).2; omega)
  have h2 : unfG (frmR lk r ++ []) = (bodyR lk r, (frmR lk r).length, 0) := unfG_back (bodyR lk r) [] (by have := (bodyR_len lk hr).2; omega)
  rw [List.append_nil, h, h1] at h2
  simp only [Prod.mk.injEq, and_true] at h2
  have h4 := h2.2
  have h5 := congrArg List.length h
  rw [← h] at h4
  rw [List.length_append] at h5
  exact List.eq_nil_of_length_eq_zero (by omega)
theorem nextR_torn (lk : Nat) {r : Rd} (hr : okB r = true) (k : Nat) (hk : k < (frmR lk r).length) : nextR lk ((frmR lk r).take k) = none := by
  cases h : nextR lk ((frmR lk r).take k) with
  | none => rfl
  | some x =>
    obtain ⟨s, n, lk'⟩ := x
    obtain ⟨hs, hf, hn, hl, _⟩ := nextR_form h
    rw [List.length_take] at hn
    rw [List.take_take] at hf
    have e : frmR lk r = frmR lk s ++ (frmR lk r).drop (min n k) := by rw [hf, List.take_append_drop]
    have h2 := congrArg List.length (frmR_cut lk hr hs _ e)
    rw [List.length_drop, List.length_nil] at h2
    omega

/-- what is read: the rides, how many bytes they take, the last link; f: how many may still be read -/
def scanF : Nat → Nat → List UInt8 → List Rd × Nat × Nat
  | 0, lk, _ => ([], 0, lk)
  | f + 1, lk, b => match nextR lk b with
    | none => ([], 0, lk)
    | some (r, n, lk') => (r :: (scanF f lk' (b.drop n)).1, n + (scanF f lk' (b.drop n)).2.1, (scanF f lk' (b.drop n)).2.2)
def scanR (lk : Nat) (b : List UInt8) : List Rd × Nat × Nat := scanF b.length lk b
theorem unfG_nil : unfG [] = ([], 0, 5) := by
  have : getN [] = (0, 0, 5) := rfl
  unfold unfG
  rw [this]
  rfl
theorem nextR_nil (lk : Nat) : nextR lk [] = none := by
  unfold nextR
  rw [unfG_nil]
  rfl
theorem scanF_none {lk : Nat} {b : List UInt8} (h : nextR lk b = none) : ∀ f, scanF f lk b = ([], 0, lk)
  | 0 => rfl
  | f + 1 => by rw [scanF, h]
theorem scanF_fuel : ∀ (f g lk : Nat) (b : List UInt8), b.length ≤ f → b.length ≤ g → scanF f lk b = scanF g lk b
  | 0, g, lk, b, h1, _ => by
    have : b = [] := List.eq_nil_of_length_eq_zero (by omega)
    subst this
    rw [scanF_none (nextR_nil lk), scanF_none (nextR_nil lk)]
  | f, 0, lk, b, _, h2 => by
    have : b = [] := List.eq_nil_of_length_eq_zero (by omega)
    subst this
    rw [scanF_none (nextR_nil lk), scanF_none (nextR_nil lk)]
  | f + 1, g + 1, lk, b, h1, h2 => by
    rw [scanF, scanF]
    cases h : nextR lk b with
    | none => rfl
    | some x =>
      obtain ⟨r, n, lk'⟩ := x
      obtain ⟨hr, _, hn, hl, _⟩ := nextR_form h
      have := (frmR_le lk hr).1
      dsimp only
      rw [scanF_fuel f g lk' (b.drop n) (by rw [List.length_drop]; omega) (by rw [List.length_drop]; omega)]
theorem scanR_none {lk : Nat} {b : List UInt8} (h : nextR lk b = none) : scanR lk b = ([], 0, lk) := scanF_none h _
theorem scanR_nil (lk : Nat) : scanR lk [] = ([], 0, lk) := scanR_none (nextR_nil lk)
theorem scanR_some {lk : Nat} {b : List UInt8} {r : Rd} {n lk' : Nat} (h : nextR lk b = some (r, n, lk')) : scanR lk b = (r :: (scanR lk' (b.drop n)).1, n + (scanR lk' (b.drop n)).2.1, (scanR lk' (b.drop n)).2.2) := by
  obtain ⟨hr, _, hn, hl, _⟩ := nextR_form h
  have := (frmR_le lk hr).1
  unfold scanR
  obtain ⟨m, hm⟩ : ∃ m, b.length = m + 1 := ⟨b.length - 1, by omega⟩
  rw [hm, scanF, h]
  dsimp only
  rw [scanF_fuel m (b.drop n).length lk' (b.drop n) (by rw [List.length_drop]; omega) (Nat.le_refl _)]
/-- behind the bytes of rides the reading goes on -/
theorem scanR_app (l : List Rd) : ∀ (lk : Nat) (rest : List UInt8), (∀ r ∈ l, okB r = true) →
    scanR lk (wrR lk l ++ rest) = (l ++ (scanR (lkR lk l) rest).1, (wrR lk l).length + (scanR (lkR lk l) rest).2.1, (scanR (lkR lk l) rest).2.2) := by
  induction l with
  | nil => intro lk rest _; simp [wrR, lkR]
  | cons r l ih =>
    intro lk rest h
    have hr := h r (by simp)
    rw [wrR, List.append_assoc, scanR_some (nextR_back lk hr _), List.drop_left' rfl, ih (lnkR lk r) rest fun s hs => h s (by simp [hs])]
    simp only [lkR, List.length_append, List.cons_append, Nat.add_assoc]
theorem scanR_back (l : List Rd) (lk : Nat) (h : ∀ r ∈ l, okB r = true) : scanR lk (wrR lk l) = (l, (wrR lk l).length, lkR lk l) := by
  have := scanR_app l lk [] h
  rw [List.append_nil, scanR_nil] at this
  simpa using this
/-- what was read is just what stands there -/
theorem scanR_form (n : Nat) : ∀ (lk : Nat) (b : List UInt8), b.length ≤ n → ∃ l s, scanR lk b = (l, s, lkR lk l) ∧ (∀ r ∈ l, okB r = true) ∧ wrR lk l = b.take s ∧ s ≤ b.length ∧ s = (wrR lk l).length ∧ nextR (lkR lk l) (b.drop s) = none := by
  induction n with
  | zero =>
    intro lk b hb
    have : b = [] := List.eq_nil_of_length_eq_zero (by omega)
    subst this
    exact ⟨[], 0, scanR_nil lk, by simp, by simp [wrR], Nat.le_refl _, rfl, nextR_nil lk⟩
  | succ n ih =>
    intro lk b hb
    cases h : nextR lk b with
    | none => exact ⟨[], 0, scanR_none h, by simp, by simp [wrR], Nat.zero_le _, rfl, by simpa [lkR] using h⟩
    | some x =>
      obtain ⟨r, k, lk'⟩ := x
      obtain ⟨hr, hf, hk, hl, rfl⟩ := nextR_form h
      have h20 := (frmR_le lk hr).1
      obtain ⟨l, s, h1, h2, h3, h4, h5, h6⟩ := ih (lnkR lk r) (b.drop k) (by rw [List.length_drop]; omega)
      rw [List.length_drop] at h4
      refine ⟨r :: l, k + s, ?_, ?_, ?_, by omega, ?_, ?_⟩
      · rw [scanR_some h, h1]; rfl
      · intro x hx
        rcases List.mem_cons.1 hx with rfl | hx
        · exact hr
        · exact h2 x hx
      · rw [wrR, h3, hf, List.take_add]
      · rw [wrR, List.length_append, ← hl, ← h5]
      · rw [← List.drop_drop]; exact h6
/-- cut off anywhere: the rides before the cut -/
theorem scanR_torn (l : List Rd) : ∀ (lk k : Nat), (∀ r ∈ l, okB r = true) → k ≤ (wrR lk l).length →
    ∃ j, j ≤ l.length ∧ scanR lk ((wrR lk l).take k) = (l.take j, (wrR lk (l.take j)).length, lkR lk (l.take j)) ∧ (wrR lk (l.take j)).length ≤ k ∧ (j < l.length → k < (wrR lk (l.take (j + 1))).length) := by
  induction l with
  | nil =>
    intro lk k _ hk
    exact ⟨0, Nat.le_refl _, by simp [wrR, scanR_nil, lkR], by simp [wrR], by simp⟩
  | cons r l ih =>
    intro lk k h hk
    have hr := h r (by simp)
    rcases Nat.lt_or_ge k (frmR lk r).length with hlt | hge
    · refine ⟨0, Nat.zero_le _, ?_, by simp [wrR], fun _ => ?_⟩
      · rw [wrR, List.take_append_of_le_length (by omega), scanR_none (nextR_torn lk hr k hlt)]
        simp [wrR, lkR]
      · simpa [wrR] using hlt
    · rw [wrR, List.length_append] at hk
      obtain ⟨j, hj, h1, h2, h3⟩ := ih (lnkR lk r) (k - (frmR lk r).length) (fun s hs => h s (by simp [hs])) (by omega)
      refine ⟨j + 1, by simpa using hj, ?_, ?_, ?_⟩
      · have e : (wrR lk (r :: l)).take k = frmR lk r ++ (wrR (lnkR lk r) l).take (k - (frmR lk r).length) := by
          rw [wrR, List.take_append, List.take_of_length_le hge]
        rw [e, scanR_some (nextR_back lk hr _), List.drop_left' rfl, h1]
        simp only [List.take_succ_cons, wrR, lkR, List.length_append]
      · rw [List.take_succ_cons, wrR, List.length_append]; omega
      · intro hlt
        have := h3 (by simpa using hlt)
        rw [List.take_succ_cons, wrR, List.length_append]
        omega
end Go.Proofs.Ytdmkkpnjakdnnaa
