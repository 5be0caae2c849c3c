/-
  The reference's search of flow (plain): the list 'via' holds the codes of the moves that a ghost map knows.
  The reference's search of flow (plain): what holds at node p and edge k.
  The reference's way back of flow (plain).
  The reference's way back of flow (plain): its moves are a path along which more is carried.
-/
import Derived.Test.YtihmboibpjfohaaFlsN
namespace Go.Proofs.Ytihmboibpjfohaa

section
/-- how the reference writes a move: k + 1 along the edge k, -(k + 1) against it -/
def codeM (m : Mv) : Int := if m.fwd = true then (m.edge : Int) + 1 else -((m.edge : Int) + 1)
theorem codeM_ne (m : Mv) : codeM m ≠ 0 := by
  unfold codeM
  split <;> omega
/-- via goes with seen -/
structure ViaI (g : Int → Option Mv) (seen via : List Int) : Prop where
  len : via.length = seen.length
  head : via.getD 0 0 = 0
  code : ∀ j, 0 < j → j < seen.length → ∃ m, g (seen.getD j 0) = some m ∧ via.getD j 0 = codeM m
theorem ViaI.start (s : Int) (m : Mv) : ViaI (putF (fun _ => none) s m) [s] [0] :=
  ⟨rfl, rfl, fun j h0 h1 => by simp at h1; omega⟩
theorem ViaI.step {g : Int → Option Mv} {seen via : List Int} (h : ViaI g seen via) (hp : 0 < seen.length) {y : Int} {m : Mv} (hy : y ∉ seen) : ViaI (putF g y m) (seen ++ [y]) (via ++ [codeM m]) := by
  refine ⟨by simp [h.len], by rw [getD_app (by rw [h.len]; exact hp)]; exact h.head, fun j h0 h1 => ?_⟩
  rw [List.length_append, List.length_singleton] at h1
  rcases Nat.lt_or_ge j seen.length with hj | hj
  · obtain ⟨m', h2, h3⟩ := h.code j h0 hj
    rw [getD_app hj, getD_app (by rw [h.len]; exact hj)]
    exact ⟨m', by rw [putF_other (fun e => hy (by rw [← e]; exact getD_mem hj))]; exact h2, h3⟩
  · obtain rfl : j = seen.length := by omega
    refine ⟨m, by rw [getD_last]; exact putF_same _ _ _, ?_⟩
    rw [← h.len]
    exact getD_last _ _
/-- what is told by a code -/
theorem codeM_fwd {m : Mv} (h : m.fwd = true) : codeM m = (m.edge : Int) + 1 := by unfold codeM; rw [if_pos h]
theorem codeM_bwd {m : Mv} (h : m.fwd = false) : codeM m = -((m.edge : Int) + 1) := by unfold codeM; rw [h]; rfl
end

section
structure SeI (es : List Ed) (f : List Int) (s : Int) (p k : Nat) (g : Int → Option Mv) (seen via : List Int) : Prop where
  sr : SrI es f s g seen
  vi : ViaI g seen via
  lt : p < seen.length
  cl : ∀ j, j < p → ClosedTo es f g (seen.getD j 0) es.length
  now : ClosedTo es f g (seen.getD p 0) k
theorem SeI.start (es : List Ed) (f : List Int) (s : Int) : SeI es f s 0 0 (putF (fun _ => none) s ⟨0, false⟩) [s] [0] :=
  ⟨SrI.start es f s, ViaI.start s _, by simp, fun j hj => by omega, fun k hk => by omega⟩
section
variable {es : List Ed} {f : List Int} {s : Int} {p k : Nat} {g : Int → Option Mv} {seen via : List Int}
theorem SeI.put (h : SeI es f s p k g seen via) {m : Mv} (hm : m.edge < es.length) (hf : mvFrom es m = seen.getD p 0) (hn : mvTo es m ∉ seen) (hr : 0 < roomN es f m) :
    SeI es f s p k (putF g (mvTo es m) m) (seen ++ [mvTo es m]) (via ++ [codeM m]) := by
  have hg : ∀ z, g z ≠ none → putF g (mvTo es m) m z ≠ none := fun z hz => by
    by_cases e : z = mvTo es m
    · rw [e, putF_same]; simp
    · rw [putF_other e]; exact hz
  have hno : g (mvTo es m) = none := Classical.byContradiction fun hc => hn ((h.sr.dom _).1 hc)
  refine ⟨h.sr.step h.lt hm hf hno hr, h.vi.step h.sr.pos hn, by have := h.lt; simp; omega, fun j hj => ?_, ?_⟩
  · rw [getD_app (by have := h.lt; omega)]
    exact (h.cl j hj).more hg
  · rw [getD_app h.lt]
    exact h.now.more hg
theorem SeI.adv (h : SeI es f s p k g seen via) (h1 : (es.getD k edZ).fr = seen.getD p 0 → 0 < roomN es f ⟨k, true⟩ → (es.getD k edZ).tt ∈ seen) (h2 : (es.getD k edZ).tt = seen.getD p 0 → 0 < roomN es f ⟨k, false⟩ → (es.getD k edZ).fr ∈ seen) : SeI es f s p (k + 1) g seen via := by
  refine ⟨h.sr, h.vi, h.lt, h.cl, fun j hj hl => ?_⟩
  rcases Nat.lt_or_ge j k with hjk | hjk
  · exact h.now j hjk hl
  · obtain rfl : j = k := by omega
    exact ⟨fun a b => (h.sr.dom _).2 (h1 a b), fun a b => (h.sr.dom _).2 (h2 a b)⟩
theorem SeI.next (h : SeI es f s p es.length g seen via) (hp : p + 1 < seen.length) : SeI es f s (p + 1) 0 g seen via := by
  refine ⟨h.sr, h.vi, hp, fun j hj => ?_, fun j hj => by omega⟩
  rcases Nat.lt_or_ge j p with h1 | h1
  · exact h.cl j h1
  · obtain rfl : j = p := by omega
    exact h.now
theorem SeI.done (h : SeI es f s p es.length g seen via) (hp : p + 1 = seen.length) : ∀ y ∈ seen, ClosedTo es f g y es.length := fun y hy => by
  obtain ⟨j, hj, rfl⟩ := List.getElem_of_mem hy
  have e : seen.getD j 0 = seen[j] := by simp [List.getElem?_eq_getElem hj]
  rw [← e]
  rcases Nat.lt_or_ge j p with h1 | h1
  · exact h.cl j h1
  · obtain rfl : j = p := by omega
    exact h.now
end
end

section
/-- where the move that a code tells begins -/
def backC (es : List Ed) (c : Int) : Int := if 0 < c then (es.getD (c - 1).toNat edZ).fr else (es.getD (-c - 1).toNat edZ).tt
theorem backC_code (es : List Ed) (m : Mv) : backC es (codeM m) = mvFrom es m := by
  unfold backC mvFrom
  cases h : m.fwd with
  | true =>
    rw [codeM_fwd h, if_pos (by omega), if_pos rfl, show ((m.edge : Int) + 1 - 1).toNat = m.edge by omega]
  | false =>
    rw [codeM_bwd h, if_neg (by omega), if_neg (by decide), show (-(-((m.edge : Int) + 1)) - 1).toNat = m.edge by omega]
/-- the codes of the way, from index i down -/
def wayC (es : List Ed) (seen via : List Int) : Nat → Int → List Int
  | 0, _ => []
  | i + 1, t => if seen.getD i 0 ≠ t ∨ via.getD i 0 = 0 then wayC es seen via i t else via.getD i 0 :: wayC es seen via i (backC es (via.getD i 0))
theorem wayC_none {es : List Ed} {seen via : List Int} : ∀ {i : Nat} {t : Int}, (∀ j, j < i → seen.getD j 0 ≠ t) → wayC es seen via i t = []
  | 0, _, _ => rfl
  | i + 1, t, h => by
    rw [wayC, if_pos (.inl (h i (by omega)))]
    exact wayC_none fun j hj => h j (by omega)
theorem wayC_some {es : List Ed} {seen via : List Int} {g : Int → Option Mv} (hv : ViaI g seen via) (hd : seen.Nodup) : ∀ {i j : Nat} {t : Int}, i ≤ seen.length → j < i → 0 < j → seen.getD j 0 = t → ∃ m, g t = some m ∧ wayC es seen via i t = codeM m :: wayC es seen via j (mvFrom es m)
  | i + 1, j, t, hi, hj, h0, ht => by
    by_cases hij : j = i
    · subst hij
      obtain ⟨m, h1, h2⟩ := hv.code j h0 (by omega)
      refine ⟨m, by rw [← ht]; exact h1, ?_⟩
      rw [wayC, if_neg (by rw [h2]; exact fun h => h.elim (fun h => h ht) (codeM_ne m)), h2, backC_code]
    · have hne : seen.getD i 0 ≠ t := fun h => by
        have e : seen.getD i 0 = seen.getD j 0 := h.trans ht.symm
        rw [List.getD_eq_getElem?_getD, List.getD_eq_getElem?_getD, List.getElem?_eq_getElem (show i < seen.length by omega), List.getElem?_eq_getElem (show j < seen.length by omega)] at e
        have := (List.getElem_inj hd).1 (by simpa using e)
        omega
      rw [wayC, if_pos (.inl hne)]
      exact wayC_some hv hd (by omega) (by omega) h0 ht
end

section
/-- the moves of a way, from index j of seen back to index 0 -/
inductive WayI (es : List Ed) (f seen : List Int) : Nat → List Mv → Prop
  | nil : WayI es f seen 0 []
  | cons {i j : Nat} {m : Mv} {ms : List Mv} (hij : i < j) (hj : j < seen.length) (hm : m.edge < es.length) (ht : mvTo es m = seen.getD j 0) (hf : mvFrom es m = seen.getD i 0) (hr : 0 < roomN es f m) (h : WayI es f seen i ms) : WayI es f seen j (m :: ms)
theorem way_moves {es : List Ed} {f seen via : List Int} {s : Int} {g : Int → Option Mv} (hS : SrI es f s g seen) (hv : ViaI g seen via) : ∀ (j i : Nat), j < i → i ≤ seen.length → ∃ ms, WayI es f seen j ms ∧ wayC es seen via i (seen.getD j 0) = ms.map codeM := by
  intro j
  induction j using Nat.strongRecOn with
  | ind j ih =>
    intro i hji hi
    rcases Nat.eq_zero_or_pos j with rfl | h0
    · refine ⟨[], .nil, ?_⟩
      have key : ∀ k, k ≤ seen.length → wayC es seen via k (seen.getD 0 0) = [] := by
        intro k
        induction k with
        | zero => intro _; rfl
        | succ k ihk =>
          intro hk
          have hor : seen.getD k 0 ≠ seen.getD 0 0 ∨ via.getD k 0 = 0 := by
            by_cases hk0 : k = 0
            · subst hk0; exact .inr hv.head
            · exact .inl fun h => hk0 (nodup_at hS.nodup (by omega) (by omega) h)
          rw [wayC, if_pos hor]
          exact ihk (by omega)
      exact key i hi
    · obtain ⟨m, hg, hw⟩ := wayC_some hv hS.nodup hi hji h0 rfl (es := es)
      obtain ⟨m', k, h1, h2, h3, h4, h5, h6⟩ := hS.mv j h0 (by omega)
      rw [hg] at h2
      obtain rfl := Option.some.inj h2
      obtain ⟨ms, hw1, hw2⟩ := ih k h1 j h1 (by omega)
      refine ⟨m :: ms, .cons h1 (by omega) h3 h4 h5 h6 hw1, ?_⟩
      rw [hw, h5, hw2]
      rfl
theorem WayI.edge {es : List Ed} {f seen : List Int} {j : Nat} {ms : List Mv} (h : WayI es f seen j ms) : ∀ m ∈ ms, m.edge < es.length ∧ 0 < roomN es f m := by
  induction h with
  | nil => intro m hm; cases hm
  | cons _ _ h3 _ _ h6 _ ih =>
    intro m hm
    rcases List.mem_cons.1 hm with rfl | hm
    · exact ⟨h3, h6⟩
    · exact ih m hm
theorem WayI.short {es : List Ed} {f seen : List Int} {j : Nat} {ms : List Mv} (h : WayI es f seen j ms) : ms.length ≤ j := by
  induction h with
  | nil => exact Nat.le_refl _
  | cons h1 _ _ _ _ _ _ ih => simp only [List.length_cons]; omega
theorem WayI.ne {es : List Ed} {f seen : List Int} {j : Nat} {ms : List Mv} (h : WayI es f seen j ms) (hj : 0 < j) : ms ≠ [] := by
  cases h with
  | nil => omega
  | cons => simp
/-- what the second pass over the way keeps: the flow after the first i moves -/
structure PassI (es : List Ed) (f seen : List Int) (t x : Int) (ms : List Mv) (i : Nat) (f' : List Int) : Prop where
  ex : ∃ j rest, WayI es f seen j rest ∧ PuI es f seen t x j f' ∧ ms.drop i = rest
theorem PassI.start {es : List Ed} {f seen : List Int} {s t x : Int} {ms : List Mv} {j : Nat} (hf : IsFlow es f s t) (hw : WayI es f seen j ms) (ht : seen.getD j 0 = t) : PassI es f seen t x ms 0 f :=
  ⟨j, ms, hw, PuI.start hf.len ht (fun _ hi => hf.at_ hi), rfl⟩
theorem PassI.step {es : List Ed} {f seen : List Int} {t x : Int} {ms : List Mv} {i : Nat} {f' : List Int} {m : Mv} (h : PassI es f seen t x ms i f') (hd : seen.Nodup) (hi : i < ms.length) (hm : ms[i] = m) (hx : 0 < x) (hr : x ≤ roomN es f m) :
    PassI es f seen t x ms (i + 1) (pushM f' x m) ∧ f'.getD m.edge 0 = f.getD m.edge 0 := by
  obtain ⟨j, rest, h1, h2, h3⟩ := h.ex
  rw [List.drop_eq_getElem_cons hi, hm] at h3
  subst h3
  cases h1 with
  | cons a1 a2 a3 a4 a5 a6 a7 => exact ⟨⟨_, _, a7, h2.step hd a1 a2 a3 a4 a5 hx hr, rfl⟩, h2.same hd a1 a2 a3 a4 a5⟩
theorem PassI.done {es : List Ed} {f seen : List Int} {t x : Int} {ms : List Mv} {i : Nat} {f' : List Int} (h : PassI es f seen t x ms i f') (hi : i = ms.length) : PuI es f seen t x 0 f' := by
  obtain ⟨j, rest, h1, h2, h3⟩ := h.ex
  rw [hi, List.drop_length] at h3
  subst h3
  cases h1
  exact h2
theorem PassI.bnd {es : List Ed} {f seen : List Int} {t x : Int} {ms : List Mv} {i : Nat} {f' : List Int} (h : PassI es f seen t x ms i f') : f'.length = es.length ∧ ∀ i, i < es.length → 0 ≤ f'.getD i 0 ∧ f'.getD i 0 ≤ (es.getD i edZ).cst := by
  obtain ⟨j, rest, h1, h2, h3⟩ := h.ex
  exact ⟨h2.len, h2.bnd⟩
end
end Go.Proofs.Ytihmboibpjfohaa
