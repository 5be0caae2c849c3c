/-
  The link in memory; upload of the law walked.
-/
import Derived.Test.YtedeggjefnpjgaaDiv5
namespace Go.Proofs.Ytedeggjefnpjgaa
open Go.RowKit

/-- a letter in memory -/
def ltN : Ms → Lt
  | .up s => ⟨1, 0, wrR 0 [rdN s]⟩
  | .ack u => ⟨0, 1, listP [(u : Int)]⟩
theorem up_len {s : Nat} (h : s ≤ 20) : (wrR 0 [rdN s]).length ≤ 41 := wrR_len [rdN s] 0 fun r hr => by rw [List.mem_singleton] at hr; subst hr; exact rdN_ok h
theorem ack_len {u : Nat} (h : u ≤ 20) : (listP [(u : Int)]).length ≤ 18 := by
  unfold listP putsN
  simp only [List.length_append, List.flatMap_cons, List.flatMap_nil, List.append_nil, List.length_cons, List.length_nil]
  have h1 : (putN (0 + 1)).length ≤ 4 := putN_le4 1 (by omega)
  have h2 := putN_le4 (u : Int).toNat (by omega)
  omega
theorem lt_len {n k : Nat} {m : Ms} (h : MsOK n k m) (hk : k ≤ n) (hn : n ≤ 20) : (ltN m).bd.length ≤ 2000 := by
  cases m with
  | up s => have := up_len (s := s) (by have := h.2; omega); show (wrR 0 [rdN s]).length ≤ 2000; omega
  | ack u => have := ack_len (u := u) (by have : u ≤ k := h; omega); show (listP [(u : Int)]).length ≤ 2000; omega
theorem up_write {s : Nat} (h : s ≤ 20) : writeG [rdN s] = (wrR 0 [rdN s], 0) := writeG_ok (by simp [rdN_ok h])
theorem up_read {s : Nat} (h : s ≤ 20) : ∃ lk, scanR 0 (wrR 0 [rdN s]) = ([rdN s], (wrR 0 [rdN s]).length, lk) := ⟨_, scanR_back [rdN s] 0 fun r hr => by rw [List.mem_singleton] at hr; subst hr; exact rdN_ok h⟩
theorem ack_read {u : Nat} (h : u ≤ 20) : listG (listP [(u : Int)]) = ([u], (listP [(u : Int)]).length, 0) := by
  have := listG_back [u] (by simp; omega) (by simp) []
  rw [List.append_nil] at this
  exact this
theorem IncN.len {n : Nat} : ∀ {l : List Nat} {b : Nat}, IncN n b l → b + l.length ≤ n ∨ l = []
  | [], _, _ => .inr rfl
  | x :: l, b, h => by
    left
    have h1 := h.1
    have h2 := h.2.1
    rcases h.2.2.len with h3 | rfl
    · rw [List.length_cons]; omega
    · simp; omega
/-- what holds of a link at any time -/
structure OKL (n : Nat) (x : Lk) : Prop where
  inv : InvD n x
  n20 : n ≤ 20
  len : x.mail.length ≤ 256
  pp : x.p = 0 ∨ x.p = 1
theorem OKL.early {n : Nat} {x : Lk} (h : OKL n x) : x.early.length ≤ 20 := by
  have := h.n20
  rcases h.inv.inc.len with h1 | h1
  · omega
  · rw [h1]; simp
/-- a link in memory -/
def LnV (w : World) (n : Nat) (x : Lk) (v : Value) : Prop := ∃ vp vm vo vg ve, v = .agg #[vp, vm, .int .i64 4, .int .i64 ((n : Int) + 1), vo, .int .i64 4, .int .i64 ((x.k : Int) + 1), vg, ve, .bool true] ∧ NetO w vp vm [0, x.p] (x.mail.map ltN) ∧ OwnRd w 0 vo (rdsN (x.a + 1) (n - x.a)) ∧ OwnRd w 0 vg (rdsN 1 x.k) ∧ OwnRd w 0 ve (x.early.map rdN)
theorem OwnRd.now {w w' : World} {base : Nat} {v : Value} {l : List Rd} (h : OwnRd w base v l) (hb : Below w.heap.size w w') : OwnRd w' base v l := own_below h hb (Nat.le_refl _)
theorem LnV.now {w w' : World} {n : Nat} {x : Lk} {v : Value} (h : LnV w n x v) (hb : Below w.heap.size w w') : LnV w' n x v := by
  obtain ⟨vp, vm, vo, vg, ve, rfl, h1, h2, h3, h4⟩ := h
  exact ⟨vp, vm, vo, vg, ve, rfl, h1.now hb, h2.now hb, h3.now hb, h4.now hb⟩
theorem OwnRd.onlyT {w w' : World} {base g : Nat} {v : Value} {l : List Rd} (h : OwnRd w base v l) (ho : Only g w w') {t : TypeId} {cs : Array Value} (hb : Blk w g t cs) (ht : t ≠ 55) : OwnRd w' base v l := ho.own h (row_blk h hb ht)
theorem NetO.onlyT {w w' : World} {g : Nat} {vp vm : Value} {ps : List Int} {ms : List Lt} (h : NetO w vp vm ps ms) (ho : Only g w w') {t : TypeId} {cs : Array Value} (hb : Blk w g t cs) (h0 : t ≠ 3) (h1 : t ≠ 58) (h2 : t ≠ 5) : NetO w' vp vm ps ms := ⟨ho.own h.1 (row_blk h.1 hb h0), h.2.onlyT ho hb h1 h2⟩
theorem OwnRd.parts {w : World} {base : Nat} {v : Value} {l : List Rd} (h : OwnRd w base v l) : ∃ A n c, v = .slice A n c ∧ Hid (l.length = n) ∧ Strs Rd.cells 7 w w.heap.size A n l := by
  obtain ⟨A, n, c, h1, h2, _, _, h3⟩ := (OwnRd.strV h).nam
  exact ⟨A, n, c, h1, h2, h3⟩
def LkR (n : Nat) (x : Lk) (w : World) (e : Ending) (w' : World) : Prop := ∃ v, e = .returned v ∧ LnV w' n x v ∧ Below w.heap.size w w'
/-- a further letter, if there is room -/
def stepS (m : Ms) (l : List Ms) : List Ms := if l.length < 256 then l ++ [m] else l
theorem stepS_len {m : Ms} {l : List Ms} (h : l.length ≤ 256) : (stepS m l).length ≤ 256 := by
  unfold stepS
  split
  · simp; omega
  · exact h
theorem stepS_ok {n k : Nat} {m : Ms} {l : List Ms} (h : ∀ m ∈ l, MsOK n k m) (hm : MsOK n k m) : ∀ m' ∈ stepS m l, MsOK n k m' := by
  unfold stepS
  split
  · intro m' hm'
    rcases List.mem_append.1 hm' with hm' | hm'
    · exact h m' hm'
    · rw [List.mem_singleton] at hm'
      subst hm'
      exact hm
  · exact h
theorem sendN_last : ∀ (c s : Nat) (l : List Ms), sendN (c + 1) s l = stepS (.up (s + c)) (sendN c s l)
  | 0, _, _ => rfl
  | c + 1, s, l => by
    rw [sendN, sendN_last c (s + 1), sendN, show s + 1 + c = s + (c + 1) by omega]
theorem sendN_len : ∀ (c s : Nat) (l : List Ms), l.length ≤ 256 → (sendN c s l).length ≤ 256
  | 0, _, _, h => h
  | c + 1, s, l, h => by rw [sendN_last]; exact stepS_len (sendN_len c s l h)
theorem OKL.upload {n : Nat} {x : Lk} (h : OKL n x) : OKL n (uploadN n x) := ⟨h.inv.upload, h.n20, sendN_len _ _ _ h.len, h.pp⟩
theorem ms_len {n k : Nat} {ms : List Ms} (h : ∀ m ∈ ms, MsOK n k m) (hk : k ≤ n) (hn : n ≤ 20) : ∀ m ∈ ms.map ltN, m.bd.length ≤ 2000 := by
  intro m hm
  obtain ⟨y, hy, rfl⟩ := List.mem_map.1 hm
  exact lt_len (h y hy) hk hn
/-- a letter is sent, or there is no room -/
def SnR (p : Int) (m : Ms) (l : List Ms) (w : World) (e : Ending) (w' : World) : Prop := ∃ r pA pn pc mA mn mc, e = .returned (.tuple #[.agg #[.slice pA pn pc, .slice mA mn mc], .int .i64 r]) ∧ Below w.heap.size w w' ∧ ((r = 0 ∧ NetO w' (.slice pA pn pc) (.slice mA mn mc) [0, p] ((stepS m l).map ltN)) ∨ (r = 9 ∧ stepS m l = l))
theorem send_ms (n k : Nat) (p : Int) (m : Ms) (ms : List Ms) (vp vm : Value) (bA : Option Addr) (bn bc : Nat) (w : World) (hn : n ≤ 20) (hk : k ≤ n) (h : ∀ m ∈ ms, MsOK n k m) (hm : MsOK n k m) (hl : ms.length ≤ 256) (hv : NetO w vp vm [0, p] (ms.map ltN)) (hb : Bytes w w.heap.size bA bn (ltN m).bd) :
    Calls Try.prog 23 #[.agg #[vp, vm], .int .i64 (ltN m).fr, .int .i64 (ltN m).to_, .slice bA bn bc] w (SnR p m ms w) := by
  obtain ⟨pA, pc, mA, mn, mc, rfl, rfl, hmn, h1, h2⟩ := hv.nam
  have hmn' : ms.length = mn := by rw [← hmn.out, List.length_map]
  have hbn : bn ≤ 2000 := by rw [← hb.blen]; exact lt_len hm hk hn
  have h3 : (0 ≤ (ltN m).fr ∧ (ltN m).fr < 2) ∧ (0 ≤ (ltN m).to_ ∧ (ltN m).to_ < 2) ∧ (ltN m).fr ≠ (ltN m).to_ := by
    cases m with
    | up s => exact ⟨⟨by show (0 : Int) ≤ 1; omega, by show (1 : Int) < 2; omega⟩, ⟨by show (0 : Int) ≤ 0; omega, by show (0 : Int) < 2; omega⟩, by show (1 : Int) ≠ 0; omega⟩
    | ack u => exact ⟨⟨by show (0 : Int) ≤ 0; omega, by show (0 : Int) < 2; omega⟩, ⟨by show (0 : Int) ≤ 1; omega, by show (1 : Int) < 2; omega⟩, by show (0 : Int) ≠ 1; omega⟩
  rcases Nat.lt_or_ge ms.length 256 with hlt | hge
  · refine (send_any pA pc mA mn mc bA bn bc (ltN m).fr (ltN m).to_ _ _ (ltN m).bd w h1 h2 (by omega) (ms_len h hk hn) h3.1 h3.2.1 h3.2.2 hb hbn).mono ?_
    rintro e w' ⟨vp', vm', rfl, hN, hB⟩
    obtain ⟨qA, qc, rA, rn, rc, rfl, rfl, _, _, _⟩ := hN.nam
    refine ⟨0, qA, 2, qc, rA, rn, rc, rfl, hB, .inl ⟨rfl, ?_⟩⟩
    unfold stepS
    rw [if_pos hlt, List.map_append]
    exact hN
  · refine (send_full pA pc mA mn mc bA bn bc (ltN m).fr (ltN m).to_ _ _ (ltN m).bd w h1 h2 (by omega) h3.1 h3.2.1 h3.2.2 hb hbn).mono ?_
    rintro e w' ⟨rfl, hB⟩
    refine ⟨9, none, 0, 0, none, 0, 0, rfl, hB, .inr ⟨rfl, ?_⟩⟩
    unfold stepS
    rw [if_neg (by omega)]
/-- one ride is written -/
theorem write_ms (s g : Nat) (w : World) (hs : s ≤ 20) (hB : Blk w g 55 (Rd.cells (rdN s)).toArray) :
    Calls Try.prog 31 #[.slice (some ⟨g, 0, none⟩) 1 1] w fun e w' => ∃ A n c, e = .returned (.tuple #[.slice A n c, .int .i64 0]) ∧ Bytes w' w'.heap.size A n (ltN (.up s)).bd ∧ Below w.heap.size w w' := by
  have hv : StrV Rd.cells 7 w w.heap.size (.slice (some ⟨g, 0, none⟩) 1 1) [rdN s] := ⟨_, 1, rfl, by simp, by simp [maxLen], by
    have := reads_blk (n := 1) (s := 7) hB rfl
    show Reads _ _ _ _ _ _
    simpa using this⟩
  refine (Write_any _ [rdN s] w hv (by simp)).mono ?_
  rintro e w' ⟨x, rfl, ho, hb⟩
  rw [up_write hs] at ho ⊢
  obtain ⟨A, n, c, rfl, _, _, _, h⟩ := (OwnB.bytV ho).nam
  exact ⟨A, n, c, rfl, h, hb⟩
end Go.Proofs.Ytedeggjefnpjgaa
