/-
  The plain law of TopDivided: a gate, the center, and the letters between them. Rides are told by their numbers. No program is in sight.
-/
import Derived.Laws.Bits64
namespace Go.Proofs.Ytedeggjefnpjgaa

/-- a letter: a ride on its way to the center, or the number up to which all have arrived on its way to the gate -/
inductive Ms where
  | up (s : Nat)
  | ack (u : Nat)
  deriving DecidableEq
/-- the gate holds the rides a + 1 .. n, the center has 1 .. k and the early ones; p is the part of the gate -/
structure Lk where
  a : Nat
  k : Nat
  early : List Nat
  mail : List Ms
  p : Int
def drainN : Nat → Nat → List Nat → Nat × List Nat
  | 0, k, e => (k, e)
  | f + 1, k, e => if k + 1 ∈ e then drainN f (k + 1) (e.erase (k + 1)) else (k, e)
def insN (s : Nat) : List Nat → List Nat
  | [] => [s]
  | x :: l => if s < x then s :: x :: l else x :: insN s l
def recvN (s k : Nat) (e : List Nat) : Nat × List Nat :=
  if s ≤ k then (k, e) else if s = k + 1 then drainN e.length (k + 1) e else if s ∈ e then (k, e) else (k, insN s e)
/-- strictly increasing, above b, at most n -/
def IncN (n : Nat) : Nat → List Nat → Prop
  | _, [] => True
  | b, x :: l => b < x ∧ x ≤ n ∧ IncN n x l
theorem IncN.mono {n : Nat} : ∀ {l : List Nat} {b b' : Nat}, IncN n b l → b' ≤ b → IncN n b' l
  | [], _, _, _, _ => trivial
  | _ :: _, _, _, h, hb => ⟨Nat.lt_of_le_of_lt hb h.1, h.2.1, h.2.2⟩
theorem IncN.gt {n : Nat} : ∀ {l : List Nat} {b : Nat}, IncN n b l → ∀ x ∈ l, b < x ∧ x ≤ n
  | [], _, _, _, hx => by cases hx
  | y :: l, b, h, x, hx => by
    rcases List.mem_cons.1 hx with rfl | hx
    · exact ⟨h.1, h.2.1⟩
    · have := h.2.2.gt x hx
      exact ⟨Nat.lt_trans h.1 this.1, this.2⟩
theorem IncN.ins {n s : Nat} : ∀ {l : List Nat} {b : Nat}, IncN n b l → b < s → s ≤ n → s ∉ l → IncN n b (insN s l)
  | [], _, _, hb, hs, _ => ⟨hb, hs, trivial⟩
  | x :: l, b, h, hb, hs, hm => by
    unfold insN
    by_cases hx : s < x
    · rw [if_pos hx]; exact ⟨hb, hs, hx, h.2.1, h.2.2⟩
    · rw [if_neg hx]
      have hne : s ≠ x := fun e => hm (by simp [e])
      exact ⟨h.1, h.2.1, h.2.2.ins (by omega) hs fun hc => hm (by simp [hc])⟩
theorem IncN.drain {n : Nat} : ∀ (f : Nat) {k : Nat} {e : List Nat}, e.length ≤ f → IncN n k e → k ≤ n → k ≤ (drainN f k e).1 ∧ (drainN f k e).1 ≤ n ∧ IncN n ((drainN f k e).1 + 1) (drainN f k e).2
  | 0, k, e, hf, h, hk => by
    have he : e = [] := List.length_eq_zero_iff.1 (by omega)
    subst he
    exact ⟨Nat.le_refl _, hk, trivial⟩
  | f + 1, k, e, hf, h, hk => by
    unfold drainN
    by_cases hm : k + 1 ∈ e
    · rw [if_pos hm]
      rcases e with _ | ⟨x, l⟩
      · cases hm
      · have hx : x = k + 1 := by
          rcases List.mem_cons.1 hm with hx | hx
          · exact hx.symm
          · have h1 := (h.2.2.gt _ hx).1
            have h2 := h.1
            omega
        subst hx
        rw [List.erase_cons_head]
        have := IncN.drain f (k := k + 1) (e := l) (by simp at hf; omega) h.2.2 h.2.1
        exact ⟨by omega, this.2.1, this.2.2⟩
    · rw [if_neg hm]
      refine ⟨Nat.le_refl _, hk, ?_⟩
      rcases e with _ | ⟨x, l⟩
      · trivial
      · have h1 := h.1
        have hne : x ≠ k + 1 := fun e => hm (by simp [e])
        exact ⟨show k + 1 < x by omega, h.2.1, h.2.2⟩
theorem recv_ok {n s k : Nat} {e : List Nat} (h : IncN n (k + 1) e) (hk : k ≤ n) (hs : s ≤ n) : k ≤ (recvN s k e).1 ∧ (recvN s k e).1 ≤ n ∧ IncN n ((recvN s k e).1 + 1) (recvN s k e).2 ∧ (s ≤ k + 1 → s ≤ (recvN s k e).1) := by
  unfold recvN
  by_cases h1 : s ≤ k
  · rw [if_pos h1]; exact ⟨Nat.le_refl _, hk, h, fun _ => h1⟩
  · rw [if_neg h1]
    by_cases h2 : s = k + 1
    · rw [if_pos h2]
      have := IncN.drain e.length (k := k + 1) (Nat.le_refl _) h (by omega)
      exact ⟨by omega, this.2.1, this.2.2, fun _ => by omega⟩
    · rw [if_neg h2]
      by_cases h3 : s ∈ e
      · rw [if_pos h3]; exact ⟨Nat.le_refl _, hk, h, fun h4 => by omega⟩
      · rw [if_neg h3]; exact ⟨Nat.le_refl _, hk, h.ins (by omega) hs h3, fun h4 => by omega⟩
def MsOK (n k : Nat) : Ms → Prop
  | .up s => 1 ≤ s ∧ s ≤ n
  | .ack u => u ≤ k
/-- what holds at any time -/
structure InvD (n : Nat) (x : Lk) : Prop where
  ak : x.a ≤ x.k
  kn : x.k ≤ n
  inc : IncN n (x.k + 1) x.early
  ms : ∀ m ∈ x.mail, MsOK n x.k m
theorem MsOK.mono {n k k' : Nat} {m : Ms} (h : MsOK n k m) (hk : k ≤ k') : MsOK n k' m := by
  cases m with
  | up s => exact h
  | ack u => exact Nat.le_trans h hk
/-- the letter m arrives; the others are l -/
def letN (x : Lk) (m : Ms) (l : List Ms) : Lk :=
  match m with
  | .ack u => ⟨max x.a u, x.k, x.early, l, x.p⟩
  | .up s => ⟨x.a, (recvN s x.k x.early).1, (recvN s x.k x.early).2, l ++ [.ack (recvN s x.k x.early).1], x.p⟩
theorem InvD.letr {n : Nat} {x : Lk} (h : InvD n x) {m : Ms} {l : List Ms} (hm : MsOK n x.k m) (hl : ∀ m ∈ l, MsOK n x.k m) : InvD n (letN x m l) := by
  cases m with
  | ack u => exact ⟨Nat.max_le.2 ⟨h.ak, hm⟩, h.kn, h.inc, hl⟩
  | up s =>
    obtain ⟨h1, h2, h3, _⟩ := recv_ok h.inc h.kn (s := s) hm.2
    refine ⟨Nat.le_trans h.ak h1, h2, h3, fun m' hm' => ?_⟩
    rcases List.mem_append.1 hm' with hm' | hm'
    · exact (hl m' hm').mono h1
    · rw [List.mem_singleton] at hm'
      subst hm'
      exact Nat.le_refl _
def arriveN (x : Lk) (i : Int) : Lk :=
  if i < 0 ∨ (x.mail.length : Int) ≤ i ∨ x.p ≠ 0 then x else match x.mail[i.toNat]? with
    | none => x
    | some m => letN x m (x.mail.eraseIdx i.toNat)
theorem InvD.arrive {n : Nat} {x : Lk} (h : InvD n x) (i : Int) : InvD n (arriveN x i) := by
  unfold arriveN
  split
  · exact h
  · split
    · exact h
    · rename_i m hm
      exact h.letr (h.ms m (List.mem_of_getElem? hm)) fun m' hm' => h.ms m' (List.mem_of_mem_eraseIdx hm')
theorem InvD.mail {n : Nat} {x : Lk} (h : InvD n x) {l : List Ms} {p : Int} (hl : ∀ m ∈ l, MsOK n x.k m) : InvD n ⟨x.a, x.k, x.early, l, p⟩ := ⟨h.ak, h.kn, h.inc, hl⟩
/-- the rides s, s + 1 .. (c of them) are sent; a letter that finds 256 is not taken -/
def sendN : Nat → Nat → List Ms → List Ms
  | 0, _, l => l
  | c + 1, s, l => sendN c (s + 1) (if l.length < 256 then l ++ [.up s] else l)
def uploadN (n : Nat) (x : Lk) : Lk := ⟨x.a, x.k, x.early, sendN (n - x.a) (x.a + 1) x.mail, x.p⟩
theorem send_ok {n k : Nat} : ∀ (c s : Nat) (l : List Ms), 1 ≤ s → s + c ≤ n + 1 → (∀ m ∈ l, MsOK n k m) → ∀ m ∈ sendN c s l, MsOK n k m
  | 0, _, _, _, _, h => h
  | c + 1, s, l, h1, h2, h => by
    unfold sendN
    refine send_ok c (s + 1) _ (by omega) (by omega) fun m hm => ?_
    split at hm
    · rcases List.mem_append.1 hm with hm | hm
      · exact h m hm
      · rw [List.mem_singleton] at hm
        subst hm
        exact ⟨h1, by omega⟩
    · exact h m hm
theorem InvD.upload {n : Nat} {x : Lk} (h : InvD n x) : InvD n (uploadN n x) := by
  have h1 := h.ak
  have h2 := h.kn
  exact ⟨h.ak, h.kn, h.inc, send_ok _ _ _ (by omega) (by omega) h.ms⟩
/-- letters arrive, the first one first -/
def runN : Nat → Lk → Lk
  | 0, x => x
  | f + 1, x => if x.mail = [] then x else runN f (arriveN x 0)
theorem arrive_zero {x : Lk} {m : Ms} {l : List Ms} (hp : x.p = 0) (hm : x.mail = m :: l) : arriveN x 0 = letN x m l := by
  unfold arriveN
  have hn : ¬ ((0 : Int) < 0 ∨ (x.mail.length : Int) ≤ 0 ∨ x.p ≠ 0) := by
    rw [hm, List.length_cons, hp]
    omega
  rw [if_neg hn, hm]
  rfl
/-- the answers arrive -/
theorem run_acks {n : Nat} : ∀ (A : List Nat) (f : Nat) (x : Lk), InvD n x → x.p = 0 → x.mail = A.map Ms.ack → A.length ≤ f → (x.a = n ∨ ∃ u ∈ A, u = n) → (runN f x).mail = [] ∧ (runN f x).k = x.k ∧ (runN f x).a = n
  | [], f, x, h, _, hm, _, ha => by
    have ha' : x.a = n := by
      rcases ha with ha | ⟨u, hu, _⟩
      · exact ha
      · cases hu
    have e : runN f x = x := by
      cases f with
      | zero => rfl
      | succ f => unfold runN; rw [if_pos (by rw [hm]; rfl)]
    rw [e]
    exact ⟨hm, rfl, ha'⟩
  | u :: A, 0, _, _, _, _, hf, _ => by simp at hf
  | u :: A, f + 1, x, h, hp, hm, hf, ha => by
    have hne : x.mail ≠ [] := by rw [hm]; simp
    unfold runN
    rw [if_neg hne, arrive_zero hp hm]
    have hu : u ≤ x.k := h.ms (.ack u) (by rw [hm]; simp)
    have h1 := h.ak
    have h2 := h.kn
    have hI := h.letr (m := .ack u) (l := A.map Ms.ack) hu fun m hm' => h.ms m (by rw [hm]; exact List.mem_cons_of_mem _ hm')
    refine run_acks A f _ hI hp rfl (by simp at hf; omega) ?_
    rcases ha with ha | ⟨v, hv, he⟩
    · left; show max x.a u = n; omega
    · rcases List.mem_cons.1 hv with rfl | hv
      · left; show max x.a v = n; omega
      · exact .inr ⟨v, hv, he⟩
def upsN : Nat → Nat → List Ms
  | 0, _ => []
  | c + 1, s => .up s :: upsN c (s + 1)
theorem send_ups : ∀ (c s : Nat) (l : List Ms), l.length + c ≤ 256 → sendN c s l = l ++ upsN c s
  | 0, _, l, _ => by simp [sendN, upsN]
  | c + 1, s, l, h => by
    unfold sendN
    rw [if_pos (by omega), send_ups c (s + 1) _ (by simp; omega)]
    simp [upsN]
theorem run_ups {n : Nat} : ∀ (c s : Nat) (A : List Nat) (f : Nat) (x : Lk), InvD n x → x.p = 0 → x.mail = upsN c s ++ A.map Ms.ack → 2 * c + A.length ≤ f → s + c = n + 1 → s ≤ x.k + 1 → (A = [] → x.a + 1 = s) → (A ≠ [] → ∃ u ∈ A, s ≤ u + 1) → (runN f x).mail = [] ∧ (runN f x).k = n ∧ (runN f x).a = n
  | 0, s, A, f, x, h, hp, hm, hf, hs, hk, ha, hA => by
    have h1 := h.ak
    have h2 := h.kn
    have := run_acks A f x h hp (by simpa [upsN] using hm) (by omega) (by
      by_cases hz : A = []
      · left; have := ha hz; omega
      · right
        obtain ⟨u, hu, hl⟩ := hA hz
        have h3 : u ≤ x.k := h.ms (.ack u) (by rw [hm]; simp [hu])
        exact ⟨u, hu, by omega⟩)
    exact ⟨this.1, by rw [this.2.1]; omega, this.2.2⟩
  | c + 1, s, A, 0, _, _, _, _, hf, _, _, _, _ => by omega
  | c + 1, s, A, f + 1, x, h, hp, hm, hf, hs, hk, ha, hA => by
    have hm' : x.mail = .up s :: (upsN c (s + 1) ++ A.map Ms.ack) := hm
    have hne : x.mail ≠ [] := by rw [hm']; simp
    unfold runN
    rw [if_neg hne, arrive_zero hp hm']
    have hMs : MsOK n x.k (.up s) := h.ms _ (by rw [hm']; simp)
    have hI := h.letr (m := .up s) (l := upsN c (s + 1) ++ A.map Ms.ack) hMs fun m hm2 => h.ms m (by rw [hm']; exact List.mem_cons_of_mem _ hm2)
    obtain ⟨r1, r2, r3, r4⟩ := recv_ok h.inc h.kn (s := s) hMs.2
    have r5 := r4 hk
    refine run_ups c (s + 1) (A ++ [(recvN s x.k x.early).1]) f _ hI hp ?_ (by simp; omega) (by omega) (by show s + 1 ≤ (recvN s x.k x.early).1 + 1; omega) (fun hz => by simp at hz) (fun _ => ⟨(recvN s x.k x.early).1, by simp, by omega⟩)
    show (upsN c (s + 1) ++ A.map Ms.ack) ++ [Ms.ack (recvN s x.k x.early).1] = _
    simp
/-- the network is whole and empty, what is pending is sent, all letters arrive: all is there -/
theorem run_all {n : Nat} {x : Lk} (h : InvD n x) (hn : n ≤ 20) : (runN 100 (uploadN n ⟨x.a, x.k, x.early, [], 0⟩)).mail = [] ∧ (runN 100 (uploadN n ⟨x.a, x.k, x.early, [], 0⟩)).k = n ∧ (runN 100 (uploadN n ⟨x.a, x.k, x.early, [], 0⟩)).a = n := by
  have h1 := h.ak
  have h2 := h.kn
  have h0 : InvD n ⟨x.a, x.k, x.early, [], 0⟩ := h.mail fun m hm => by cases hm
  have hu : InvD n (uploadN n ⟨x.a, x.k, x.early, [], 0⟩) := h0.upload
  refine run_ups (n - x.a) (x.a + 1) [] 100 _ hu rfl ?_ (by simp; omega) (by omega) (by show x.a + 1 ≤ x.k + 1; omega) (fun _ => rfl) (fun hz => absurd rfl hz)
  show sendN (n - x.a) (x.a + 1) [] = _
  rw [send_ups _ _ _ (by simp; omega)]
  simp
end Go.Proofs.Ytedeggjefnpjgaa
