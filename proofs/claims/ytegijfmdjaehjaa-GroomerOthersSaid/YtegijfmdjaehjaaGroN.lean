/-
  Lengths of the graph's package, bounds; the edges of the groomers; in plain Lean.
-/
import Derived.Test.YtegijfmdjaehjaaGraN
import Derived.Test.YtegijfmdjaehjaaTerM
namespace Go.Proofs.Ytegijfmdjaehjaa

abbrev edZ : Ed := ⟨0, 0, 0, 0⟩
theorem ed_mem {es : List Ed} {k : Nat} (h : k < es.length) : es.getD k edZ ∈ es := by simp [List.getElem?_eq_getElem h]
theorem ed_take {es : List Ed} {k : Nat} (h : k < es.length) : es.take (k + 1) = es.take k ++ [es.getD k edZ] := by
  rw [List.take_succ_eq_append_getElem h]
  simp [List.getElem?_eq_getElem h]
theorem fold_snoc {es : List Ed} {k : Nat} (h : k < es.length) (s : DM × Bool) : (es.take (k + 1)).foldl relax s = relax ((es.take k).foldl relax s) (es.getD k edZ) := by
  rw [ed_take h, List.foldl_append]
  rfl
/-- the numbers of a map of lengths are at most those of M steps -/
def BndD (f : DM) (M : Int) : Prop := ∀ v a, f v = some a → (0 ≤ a.1 ∧ a.1 ≤ 1000000 * M) ∧ 0 ≤ a.2 ∧ a.2 ≤ M
theorem BndD.start (t : Int) : BndD (startD t) 0 := fun v a h => by
  unfold startD at h
  split at h
  · injection h with h
    subst h
    simp
  · cases h
theorem BndD.mono {f : DM} {M N : Int} (h : BndD f M) (hMN : M ≤ N) : BndD f N := fun v a ha => by
  have := h v a ha
  omega
theorem BndD.upd {f : DM} {M : Int} (h : BndD f M) {v x c : Int} {a : Int × Int} (ha : f v = some a) (hc : 0 ≤ c ∧ c ≤ 1000000) : BndD (updM f x (a.1 + c, a.2 + 1)) (M + 1) := fun y b hb => by
  by_cases hy : y = x
  · subst hy
    rw [updM_same] at hb
    injection hb with hb
    subst hb
    have := h v a ha
    simp only
    omega
  · rw [updM_other f hy] at hb
    have := h y b hb
    omega
theorem relax_none {s : DM × Bool} {e : Ed} (h : s.1 e.tt = none) : relax s e = s := by unfold relax; rw [h]
theorem relax_new {s : DM × Bool} {e : Ed} {a : Int × Int} (h : s.1 e.tt = some a) (k : s.1 e.fr = none) : relax s e = (updM s.1 e.fr (a.1 + e.cst, a.2 + 1), true) := by unfold relax; rw [h]; dsimp only; rw [k]
theorem relax_less' {s : DM × Bool} {e : Ed} {a o : Int × Int} (h : s.1 e.tt = some a) (k : s.1 e.fr = some o) (hl : lessL (a.1 + e.cst, a.2 + 1) o = true) : relax s e = (updM s.1 e.fr (a.1 + e.cst, a.2 + 1), true) := by
  unfold relax; rw [h]; dsimp only; rw [k]; dsimp only; rw [if_pos hl]
theorem relax_not {s : DM × Bool} {e : Ed} {a o : Int × Int} (h : s.1 e.tt = some a) (k : s.1 e.fr = some o) (hl : lessL (a.1 + e.cst, a.2 + 1) o = false) : relax s e = s := by
  unfold relax; rw [h]; dsimp only; rw [k]; dsimp only; rw [if_neg (by rw [hl]; decide)]
theorem lenF_stop {es : List Ed} {n : Nat} {f f' : DM} (h : roundD es f = (f', false)) : lenF es (n + 1) f = f' := by
  rw [lenF, h]
  rfl
theorem lenF_go {es : List Ed} {n : Nat} {f f' : DM} (h : roundD es f = (f', true)) : lenF es (n + 1) f = lenF es n f' := by
  rw [lenF, h]
  rfl
/-! ### the edges -/
def add2 (acc : List Ed) (f t c : Int) : List Ed := acc ++ [⟨(acc.length : Int), f, t, c⟩] ++ [⟨((acc.length + 1 : Nat) : Int), t, f, c⟩]
def lnL : List Lf → List Ed → List Ed
  | [], acc => acc
  | x :: l, acc => lnL l (add2 acc x.fr x.tt x.ln)
def lnR : List Rn → List Ed → List Ed
  | [], acc => acc
  | x :: l, acc => lnR l (add2 acc x.fr x.tt x.ln)
def lnE (lf : List Lf) (rs : List Rn) : List Ed := lnR rs (lnL lf [])
theorem lnL_at {l : List Lf} {acc : List Ed} {k : Nat} (h : k < l.length) : lnL (l.drop k) acc = lnL (l.drop (k + 1)) (add2 acc (l.getD k lf0).fr (l.getD k lf0).tt (l.getD k lf0).ln) := by
  rw [List.drop_eq_getElem_cons h, lnL]
  simp [List.getElem?_eq_getElem h]
theorem lnR_at {l : List Rn} {acc : List Ed} {k : Nat} (h : k < l.length) : lnR (l.drop k) acc = lnR (l.drop (k + 1)) (add2 acc (l.getD k rn0).fr (l.getD k rn0).tt (l.getD k rn0).ln) := by
  rw [List.drop_eq_getElem_cons h, lnR]
  simp [List.getElem?_eq_getElem h]
theorem add2_len (acc : List Ed) (f t c : Int) : (add2 acc f t c).length = acc.length + 2 := by simp [add2]
/-- a step of a map -/
def IsStep (lf : List Lf) (rs : List Rn) (f t c : Int) : Prop := (∃ x ∈ lf, x.fr = f ∧ x.tt = t ∧ x.ln = c) ∨ ∃ x ∈ rs, x.fr = f ∧ x.tt = t ∧ x.ln = c
theorem add2_mem {acc : List Ed} {f t c : Int} {e : Ed} : e ∈ add2 acc f t c ↔ e ∈ acc ∨ e = ⟨(acc.length : Int), f, t, c⟩ ∨ e = ⟨((acc.length + 1 : Nat) : Int), t, f, c⟩ := by
  simp [add2]
theorem lnL_mem : ∀ {l : List Lf} {acc : List Ed} {f t c : Int}, (∃ e ∈ lnL l acc, e.fr = f ∧ e.tt = t ∧ e.cst = c) ↔ (∃ e ∈ acc, e.fr = f ∧ e.tt = t ∧ e.cst = c) ∨ ∃ x ∈ l, x.ln = c ∧ ((x.fr = f ∧ x.tt = t) ∨ (x.tt = f ∧ x.fr = t))
  | [], acc, f, t, c => by simp [lnL]
  | x :: l, acc, f, t, c => by
    rw [lnL, lnL_mem]
    constructor
    · rintro (⟨e, he, h⟩ | ⟨y, hy, h⟩)
      · rcases add2_mem.1 he with he | rfl | rfl
        · exact .inl ⟨e, he, h⟩
        · exact .inr ⟨x, by simp, h.2.2, .inl ⟨h.1, h.2.1⟩⟩
        · exact .inr ⟨x, by simp, h.2.2, .inr ⟨h.1, h.2.1⟩⟩
      · exact .inr ⟨y, by simp [hy], h⟩
    · rintro (⟨e, he, h⟩ | ⟨y, hy, h1, h2⟩)
      · exact .inl ⟨e, add2_mem.2 (.inl he), h⟩
      · rcases List.mem_cons.1 hy with rfl | hy
        · rcases h2 with h2 | h2
          · exact .inl ⟨_, add2_mem.2 (.inr (.inl rfl)), h2.1, h2.2, h1⟩
          · exact .inl ⟨_, add2_mem.2 (.inr (.inr rfl)), h2.1, h2.2, h1⟩
        · exact .inr ⟨y, hy, h1, h2⟩
theorem lnR_mem : ∀ {l : List Rn} {acc : List Ed} {f t c : Int}, (∃ e ∈ lnR l acc, e.fr = f ∧ e.tt = t ∧ e.cst = c) ↔ (∃ e ∈ acc, e.fr = f ∧ e.tt = t ∧ e.cst = c) ∨ ∃ x ∈ l, x.ln = c ∧ ((x.fr = f ∧ x.tt = t) ∨ (x.tt = f ∧ x.fr = t))
  | [], acc, f, t, c => by simp [lnR]
  | x :: l, acc, f, t, c => by
    rw [lnR, lnR_mem]
    constructor
    · rintro (⟨e, he, h⟩ | ⟨y, hy, h⟩)
      · rcases add2_mem.1 he with he | rfl | rfl
        · exact .inl ⟨e, he, h⟩
        · exact .inr ⟨x, by simp, h.2.2, .inl ⟨h.1, h.2.1⟩⟩
        · exact .inr ⟨x, by simp, h.2.2, .inr ⟨h.1, h.2.1⟩⟩
      · exact .inr ⟨y, by simp [hy], h⟩
    · rintro (⟨e, he, h⟩ | ⟨y, hy, h1, h2⟩)
      · exact .inl ⟨e, add2_mem.2 (.inl he), h⟩
      · rcases List.mem_cons.1 hy with rfl | hy
        · rcases h2 with h2 | h2
          · exact .inl ⟨_, add2_mem.2 (.inr (.inl rfl)), h2.1, h2.2, h1⟩
          · exact .inl ⟨_, add2_mem.2 (.inr (.inr rfl)), h2.1, h2.2, h1⟩
        · exact .inr ⟨y, hy, h1, h2⟩
theorem lnE_mem {lf : List Lf} {rs : List Rn} {f t c : Int} : (∃ e ∈ lnE lf rs, e.fr = f ∧ e.tt = t ∧ e.cst = c) ↔ IsStep lf rs f t c ∨ IsStep lf rs t f c := by
  unfold lnE IsStep
  rw [lnR_mem, lnL_mem]
  constructor
  · rintro ((⟨e, he, _⟩ | ⟨x, hx, h1, h2 | h2⟩) | ⟨x, hx, h1, h2 | h2⟩)
    · cases he
    · exact .inl (.inl ⟨x, hx, h2.1, h2.2, h1⟩)
    · exact .inr (.inl ⟨x, hx, h2.2, h2.1, h1⟩)
    · exact .inl (.inr ⟨x, hx, h2.1, h2.2, h1⟩)
    · exact .inr (.inr ⟨x, hx, h2.2, h2.1, h1⟩)
  · rintro ((⟨x, hx, h1, h2, h3⟩ | ⟨x, hx, h1, h2, h3⟩) | (⟨x, hx, h1, h2, h3⟩ | ⟨x, hx, h1, h2, h3⟩))
    · exact .inl (.inr ⟨x, hx, h3, .inl ⟨h1, h2⟩⟩)
    · exact .inr ⟨x, hx, h3, .inl ⟨h1, h2⟩⟩
    · exact .inl (.inr ⟨x, hx, h3, .inr ⟨h2, h1⟩⟩)
    · exact .inr ⟨x, hx, h3, .inr ⟨h2, h1⟩⟩
theorem lnE_both (lf : List Lf) (rs : List Rn) : Both (lnE lf rs) := fun e he => by
  have h := lnE_mem.1 ⟨e, he, rfl, rfl, rfl⟩
  obtain ⟨d, hd, h1, h2, h3⟩ := lnE_mem.2 (h.symm)
  exact ⟨d, hd, h1, h2, h3⟩
theorem lnL_len : ∀ (l : List Lf) (acc : List Ed), (lnL l acc).length = acc.length + 2 * l.length
  | [], acc => by simp [lnL]
  | x :: l, acc => by rw [lnL, lnL_len, add2_len, List.length_cons]; omega
theorem lnR_len : ∀ (l : List Rn) (acc : List Ed), (lnR l acc).length = acc.length + 2 * l.length
  | [], acc => by simp [lnR]
  | x :: l, acc => by rw [lnR, lnR_len, add2_len, List.length_cons]; omega
theorem lnE_len (lf : List Lf) (rs : List Rn) : (lnE lf rs).length = 2 * lf.length + 2 * rs.length := by
  unfold lnE
  rw [lnR_len, lnL_len]
  simp
/-- the length of the way, if there is one -/
def wayO (nd : List Nd) (lf : List Lf) (rs : List Rn) (u v : Int) : Option Int :=
  if hasN nd u = true ∧ hasN nd v = true then (lengthsD (lnE lf rs) v u).map Prod.fst else none
def wayI (o : Option Int) : Int := o.getD 0
end Go.Proofs.Ytegijfmdjaehjaa
