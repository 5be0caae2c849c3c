/-
  The ways home, in plain Lean: an increasing list, what is reached, and what Egress has to do with it.
-/
import Derived.Test.YtihmboibpjfohaaEgrN
namespace Go.Proofs.Ytihmboibpjfohaa

/-- an increasing list with a number that it may have already -/
def putN : List Int → Int → List Int
  | [], n => [n]
  | x :: l, n => if n ≤ x then (if n < x then n :: x :: l else x :: l) else x :: putN l n
abbrev Inc (l : List Int) : Prop := l.Pairwise (· < ·)
theorem putN_mem {l : List Int} {n x : Int} : x ∈ putN l n ↔ x ∈ l ∨ x = n := by
  induction l with
  | nil => simp [putN]
  | cons y l ih =>
    rw [putN]
    split
    · split
      · simp only [List.mem_cons]
        constructor
        · rintro (h | h | h)
          · exact .inr h
          · exact .inl (.inl h)
          · exact .inl (.inr h)
        · rintro ((h | h) | h)
          · exact .inr (.inl h)
          · exact .inr (.inr h)
          · exact .inl h
      · have : n = y := by omega
        subst this
        simp only [List.mem_cons]
        constructor
        · exact .inl
        · rintro (h | h)
          · exact h
          · exact .inl h
    · simp only [List.mem_cons, ih]
      constructor
      · rintro (h | h | h)
        · exact .inl (.inl h)
        · exact .inl (.inr h)
        · exact .inr h
      · rintro ((h | h) | h)
        · exact .inl h
        · exact .inr (.inl h)
        · exact .inr (.inr h)
theorem putN_inc {l : List Int} {n : Int} (h : Inc l) : Inc (putN l n) := by
  induction l with
  | nil => simp [putN]
  | cons y l ih =>
    obtain ⟨h1, h2⟩ := List.pairwise_cons.1 h
    rw [putN]
    split
    · split
      · refine List.pairwise_cons.2 ⟨fun z hz => ?_, h⟩
        rcases List.mem_cons.1 hz with rfl | hz
        · assumption
        · have := h1 z hz
          omega
      · exact h
    · refine List.pairwise_cons.2 ⟨fun z hz => ?_, ih h2⟩
      rcases putN_mem.1 hz with hz | rfl
      · exact h1 z hz
      · omega
theorem putN_in {l : List Int} {n : Int} (h : Inc l) (hn : n ∈ l) : putN l n = l := by
  induction l with
  | nil => cases hn
  | cons y l ih =>
    obtain ⟨h1, h2⟩ := List.pairwise_cons.1 h
    rw [putN]
    rcases List.mem_cons.1 hn with rfl | hn
    · rw [if_pos (Int.le_refl _), if_neg (by omega)]
    · have := h1 n hn
      rw [if_neg (by omega), ih h2 hn]
theorem putN_len (l : List Int) (n : Int) : l.length ≤ (putN l n).length ∧ (putN l n).length ≤ l.length + 1 := by
  induction l with
  | nil => simp [putN]
  | cons y l ih =>
    rw [putN]
    split
    · split <;> simp
    · simp only [List.length_cons]; omega
theorem putN_new {l : List Int} {n : Int} (hn : n ∉ l) : (putN l n).length = l.length + 1 := by
  induction l with
  | nil => simp [putN]
  | cons y l ih =>
    rw [putN]
    have h1 : n ≠ y := fun e => hn (by simp [e])
    have h2 : n ∉ l := fun e => hn (by simp [e])
    split
    · rw [if_pos (by omega)]; simp
    · simp only [List.length_cons, ih h2]
/-- what the loop of put has still to do -/
def putD (done : Bool) (l : List Int) (n : Int) : List Int := if done = true then l else putN l n
theorem putD_at {l : List Int} {k : Nat} (h : k < l.length) (done : Bool) (n : Int) : putD done (l.drop k) n = (if done = true then [l.getD k 0] else if n ≤ l.getD k 0 then (if n < l.getD k 0 then [n, l.getD k 0] else [l.getD k 0]) else [l.getD k 0]) ++ putD (done || decide (n ≤ l.getD k 0)) (l.drop (k + 1)) n := by
  have e : l.drop k = l.getD k 0 :: l.drop (k + 1) := by
    rw [List.drop_eq_getElem_cons h]
    simp [List.getElem?_eq_getElem h]
  rw [e]
  generalize l.getD k 0 = x
  unfold putD
  cases done with
  | true => simp
  | false =>
    simp only [Bool.false_eq_true, if_false, Bool.false_or, decide_eq_true_eq]
    rw [putN]
    split
    · split <;> simp
    · simp

/-! ### what is reached -/
/-- a list of nodes that some pass over the edges has come to -/
structure RcI (es : List Ed) (fs out : List Int) : Prop where
  inc : Inc out
  sub : ∀ x ∈ out, ∃ b ∈ fs, ∃ p, IsW es b p x
theorem RcI.put {es : List Ed} {fs out : List Int} (h : RcI es fs out) {n : Int} (hn : ∃ b ∈ fs, ∃ p, IsW es b p n) : RcI es fs (putN out n) :=
  ⟨putN_inc h.inc, fun x hx => by
    rcases putN_mem.1 hx with hx | rfl
    · exact h.sub x hx
    · exact hn⟩
theorem RcI.edge {es : List Ed} {fs out : List Int} (h : RcI es fs out) {e : Ed} (he : e ∈ es) (hf : e.fr ∈ out) : ∃ b ∈ fs, ∃ p, IsW es b p e.tt := by
  obtain ⟨b, hb, p, hp⟩ := h.sub _ hf
  exact ⟨b, hb, p ++ [e], hp.app ⟨he, rfl, rfl⟩⟩
theorem inc_nodup {l : List Int} (h : Inc l) : l.Nodup := h.imp fun h => by omega
theorem RcI.short {es : List Ed} {fs out : List Int} (h : RcI es fs out) : out.length ≤ fs.length + es.length := by
  have h1 := sub_len out (fs ++ es.map Ed.tt) (inc_nodup h.inc) fun x hx => by
    obtain ⟨b, hb, p, hp⟩ := h.sub x hx
    rw [List.mem_append]
    rcases List.eq_nil_or_concat p with rfl | ⟨q, e, rfl⟩
    · have : b = x := hp
      exact .inl (this ▸ hb)
    · right
      have key : ∀ (q : List Ed) (u : Int), IsW es u (q ++ [e]) x → e ∈ es ∧ e.tt = x := by
        intro q
        induction q with
        | nil => intro u hu; exact ⟨hu.1, hu.2.2⟩
        | cons a q ih => intro u hu; exact ih _ hu.2.2
      rw [List.concat_eq_append] at hp
      obtain ⟨h1, h2⟩ := key q b hp
      exact List.mem_map.2 ⟨e, h1, h2⟩
  simpa using h1
/-- a pass over the edges: O is the list before it, k edges are looked at -/
structure PsI (es : List Ed) (fs O out : List Int) (k : Nat) : Prop where
  rc : RcI es fs out
  all : ∀ x ∈ O, x ∈ out
  len : O.length ≤ out.length
  same : out.length = O.length → out = O ∧ ∀ j, j < k → (es.getD j edZ).fr ∈ O → (es.getD j edZ).tt ∈ O
theorem PsI.start {es : List Ed} {fs O : List Int} (h : RcI es fs O) : PsI es fs O O 0 := ⟨h, fun _ hx => hx, Nat.le_refl _, fun _ => ⟨rfl, fun j hj => by omega⟩⟩
theorem PsI.no {es : List Ed} {fs O out : List Int} {k : Nat} (h : PsI es fs O out k) (hf : (es.getD k edZ).fr ∉ out) : PsI es fs O out (k + 1) := by
  refine ⟨h.rc, h.all, h.len, fun he => ?_⟩
  obtain ⟨h1, h2⟩ := h.same he
  refine ⟨h1, fun j hj hx => ?_⟩
  rcases Nat.lt_or_ge j k with h3 | h3
  · exact h2 j h3 hx
  · obtain rfl : j = k := by omega
    rw [h1] at hf
    exact absurd hx hf
theorem PsI.yes {es : List Ed} {fs O out : List Int} {k : Nat} (h : PsI es fs O out k) (hk : k < es.length) (hf : (es.getD k edZ).fr ∈ out) : PsI es fs O (putN out (es.getD k edZ).tt) (k + 1) := by
  have hl := putN_len out (es.getD k edZ).tt
  have hle := h.len
  refine ⟨h.rc.put (h.rc.edge (ed_mem hk) hf), fun x hx => putN_mem.2 (.inl (h.all x hx)), by omega, fun he => ?_⟩
  have hin : (es.getD k edZ).tt ∈ out := Classical.byContradiction fun hc => by
    have := putN_new hc
    omega
  obtain ⟨h1, h2⟩ := h.same (by omega)
  rw [putN_in h.rc.inc hin]
  refine ⟨h1, fun j hj hx => ?_⟩
  rcases Nat.lt_or_ge j k with h3 | h3
  · exact h2 j h3 hx
  · obtain rfl : j = k := by omega
    rw [← h1]
    exact hin
/-- between the passes -/
structure RoI (es : List Ed) (fs out : List Int) (was : Int) : Prop where
  rc : RcI es fs out
  fr : ∀ x ∈ fs, x ∈ out
  lo : -1 ≤ was ∧ was ≤ (out.length : Int)
  fin : was = (out.length : Int) → ∀ j, j < es.length → (es.getD j edZ).fr ∈ out → (es.getD j edZ).tt ∈ out
theorem PsI.done {es : List Ed} {fs O out : List Int} (h : PsI es fs O out es.length) (hf : ∀ x ∈ fs, x ∈ O) : RoI es fs out (O.length : Int) := by
  have hl := h.len
  refine ⟨h.rc, fun x hx => h.all x (hf x hx), by omega, fun he => ?_⟩
  obtain ⟨h1, h2⟩ := h.same (by omega)
  rw [h1]
  exact h2
theorem RoI.reach {es : List Ed} {fs out : List Int} {was : Int} (h : RoI es fs out was) (hd : ¬ was < (out.length : Int)) (x : Int) : x ∈ out ↔ ∃ b ∈ fs, ∃ p, IsW es b p x := by
  have hl := h.lo
  refine ⟨h.rc.sub x, ?_⟩
  rintro ⟨b, hb, p, hp⟩
  have key : ∀ (p : List Ed) (u : Int), u ∈ out → IsW es u p x → x ∈ out := by
    intro p
    induction p with
    | nil => intro u hu hw; have e : u = x := hw; exact e ▸ hu
    | cons e p ih =>
      intro u hu hw
      obtain ⟨j, hj, hje⟩ := List.getElem_of_mem hw.1
      have he : es.getD j edZ = e := by simp [List.getElem?_eq_getElem hj, hje]
      have := h.fin (by omega) j hj (by rw [he, hw.2.1]; exact hu)
      rw [he] at this
      exact ih e.tt this hw.2.2
  exact key p b (h.fr b hb) hp
/-- the first loop of Reach -/
structure RfI (es : List Ed) (fs out : List Int) (k : Nat) : Prop where
  rc : RcI es fs out
  fr : ∀ j, j < k → j < fs.length → fs.getD j 0 ∈ out
theorem RfI.start (es : List Ed) (fs : List Int) : RfI es fs [] 0 := ⟨⟨.nil, fun x hx => by cases hx⟩, fun j hj => by omega⟩
theorem RfI.step {es : List Ed} {fs out : List Int} {k : Nat} (h : RfI es fs out k) (hk : k < fs.length) : RfI es fs (putN out (fs.getD k 0)) (k + 1) := by
  refine ⟨h.rc.put ⟨_, getD_mem hk, [], rfl⟩, fun j hj hjl => putN_mem.2 ?_⟩
  rcases Nat.lt_or_ge j k with h1 | h1
  · exact .inl (h.fr j h1 hjl)
  · obtain rfl : j = k := by omega
    exact .inr rfl
theorem RfI.done {es : List Ed} {fs out : List Int} {k : Nat} (h : RfI es fs out k) (hk : fs.length ≤ k) : RoI es fs out (-1) :=
  ⟨h.rc, fun x hx => by
    obtain ⟨j, hj, rfl⟩ := List.getElem_of_mem hx
    have := h.fr j (by omega) hj
    simpa [List.getElem?_eq_getElem hj] using this, by omega, fun he => by omega⟩
theorem RfI.short {es : List Ed} {fs out : List Int} {k : Nat} (h : RfI es fs out k) : out.length ≤ fs.length + es.length := h.rc.short

/-! ### edges turned round -/
def trnE (e : Ed) : Ed := ⟨e.eid, e.tt, e.fr, e.cst⟩
theorem walk_turn {es : List Ed} : ∀ (p : List Ed) (u v : Int), IsW (es.map trnE) u p v → ∃ q, IsW es v q u
  | [], u, v, h => ⟨[], (show u = v from h).symm⟩
  | e :: p, u, v, h => by
    obtain ⟨q, hq⟩ := walk_turn p e.tt v h.2.2
    obtain ⟨a, ha, hae⟩ := List.mem_map.1 h.1
    have h1 : a.tt = u := by rw [← h.2.1, ← hae]; rfl
    have h2 : a.fr = e.tt := by rw [← hae]; rfl
    exact ⟨q ++ [a], hq.app ⟨ha, h2, h1⟩⟩
theorem turn_walk {es : List Ed} : ∀ (p : List Ed) (u v : Int), IsW es u p v → ∃ q, IsW (es.map trnE) v q u
  | [], u, v, h => ⟨[], (show u = v from h).symm⟩
  | e :: p, u, v, h => by
    obtain ⟨q, hq⟩ := turn_walk p e.tt v h.2.2
    exact ⟨q ++ [trnE e], hq.app ⟨List.mem_map.2 ⟨e, h.1, rfl⟩, rfl, h.2.1⟩⟩

/-! ### the edges of the listed runs -/
def dnE (rs : List Rn) (runs : List Int) : List Ed := (rs.filter fun r => runs.contains r.id).map fun r => ⟨r.id, r.fr, r.tt, r.ln⟩
theorem dnE_mem {rs : List Rn} {runs : List Int} {e : Ed} : e ∈ dnE rs runs ↔ ∃ r ∈ rs, runs.contains r.id = true ∧ e = ⟨r.id, r.fr, r.tt, r.ln⟩ := by
  unfold dnE
  simp only [List.mem_map, List.mem_filter]
  constructor
  · rintro ⟨r, ⟨h1, h2⟩, rfl⟩; exact ⟨r, h1, h2, rfl⟩
  · rintro ⟨r, h1, h2, rfl⟩; exact ⟨r, ⟨h1, h2⟩, rfl⟩
theorem dn_snoc {rs : List Rn} {runs : List Int} {k : Nat} (h : k < rs.length) : dnE (rs.take (k + 1)) runs = if runs.contains (rs.getD k rn0).id = true then dnE (rs.take k) runs ++ [⟨(rs.getD k rn0).id, (rs.getD k rn0).fr, (rs.getD k rn0).tt, (rs.getD k rn0).ln⟩] else dnE (rs.take k) runs := by
  have e : rs.take (k + 1) = rs.take k ++ [rs.getD k rn0] := by
    rw [List.take_succ_eq_append_getElem h]
    simp [List.getElem?_eq_getElem h]
  rw [e]
  unfold dnE
  rw [List.filter_append, List.map_append, List.filter_cons]
  split <;> simp
abbrev e3 (e : Ed) : Int × Int × Int := (e.fr, e.tt, e.cst)
theorem egR_e3 {runs : List Int} : ∀ {rs : List Rn} {acc : List Ed}, (egR runs rs acc).map e3 = acc.map e3 ++ (rs.filter fun r => runs.contains r.id).map fun r => (r.fr, r.tt, (5 - r.gr) * 500)
  | [], acc => by simp [egR]
  | r :: rs, acc => by
    rw [egR, egR_e3, List.filter_cons]
    split <;> simp
theorem egB_e3 : ∀ {bs : List Int} {acc : List Ed}, (egB bs acc).map e3 = acc.map e3 ++ bs.map fun b => (b, 0, 1000000)
  | [], acc => by simp [egB]
  | b :: bs, acc => by
    rw [egB, egB_e3]
    simp
theorem egE_e3 (rs : List Rn) (runs bs : List Int) : (egE rs runs bs).map e3 = ((rs.filter fun r => runs.contains r.id).map fun r => (r.fr, r.tt, (5 - r.gr) * 500)) ++ bs.map fun b => (b, 0, 1000000) := by
  unfold egE
  rw [egB_e3, egR_e3]
  simp
theorem egE_mem {rs : List Rn} {runs bs : List Int} {e : Ed} (h : e ∈ egE rs runs bs) : (∃ r ∈ rs, runs.contains r.id = true ∧ e.fr = r.fr ∧ e.tt = r.tt ∧ e.cst = (5 - r.gr) * 500) ∨ ∃ b ∈ bs, e.fr = b ∧ e.tt = 0 ∧ e.cst = 1000000 := by
  have h1 : e3 e ∈ (egE rs runs bs).map e3 := List.mem_map_of_mem h
  rw [egE_e3, List.mem_append, List.mem_map, List.mem_map] at h1
  rcases h1 with ⟨r, hr, he⟩ | ⟨b, hb, he⟩
  · obtain ⟨h2, h3⟩ := List.mem_filter.1 hr
    simp only [e3, Prod.mk.injEq] at he
    exact .inl ⟨r, h2, h3, he.1.symm, he.2.1.symm, he.2.2.symm⟩
  · simp only [e3, Prod.mk.injEq] at he
    exact .inr ⟨b, hb, he.1.symm, he.2.1.symm, he.2.2.symm⟩
theorem egE_run {rs : List Rn} {runs bs : List Int} {r : Rn} (h : r ∈ rs) (hc : runs.contains r.id = true) : ∃ e ∈ egE rs runs bs, e.fr = r.fr ∧ e.tt = r.tt := by
  have h1 : (r.fr, r.tt, (5 - r.gr) * 500) ∈ (egE rs runs bs).map e3 := by
    rw [egE_e3, List.mem_append]
    exact .inl (List.mem_map.2 ⟨r, List.mem_filter.2 ⟨h, hc⟩, rfl⟩)
  obtain ⟨e, he, h2⟩ := List.mem_map.1 h1
  simp only [e3, Prod.mk.injEq] at h2
  exact ⟨e, he, h2.1, h2.2.1⟩
theorem egE_base {rs : List Rn} {runs bs : List Int} {b : Int} (h : b ∈ bs) : ∃ e ∈ egE rs runs bs, e.fr = b ∧ e.tt = 0 ∧ e.cst = 1000000 := by
  have h1 : ((b, 0, 1000000) : Int × Int × Int) ∈ (egE rs runs bs).map e3 := by
    rw [egE_e3, List.mem_append]
    exact .inr (List.mem_map.2 ⟨b, h, rfl⟩)
  obtain ⟨e, he, h2⟩ := List.mem_map.1 h1
  simp only [e3, Prod.mk.injEq] at h2
  exact ⟨e, he, h2.1, h2.2.1, h2.2.2⟩
theorem home_out {rs : List Rn} {runs bs : List Int} (hr : ∀ r ∈ rs, r.tt ≠ 0) : ∀ (p : List Ed) (u : Int), u ≠ 0 → IsW (egE rs runs bs) u p 0 → ∃ b ∈ bs, ∃ q, IsW (dnE rs runs) u q b
  | [], u, hu, h => absurd (show u = 0 from h) hu
  | e :: p, u, hu, h => by
    rcases egE_mem h.1 with ⟨r, h1, h2, h3, h4, _⟩ | ⟨b, h1, h2, _⟩
    · obtain ⟨b, hb, q, hq⟩ := home_out hr p e.tt (by rw [h4]; exact hr r h1) h.2.2
      exact ⟨b, hb, ⟨r.id, r.fr, r.tt, r.ln⟩ :: q, dnE_mem.2 ⟨r, h1, h2, rfl⟩, by rw [← h.2.1, h3], by show IsW _ r.tt q b; rw [← h4]; exact hq⟩
    · exact ⟨b, h1, [], by rw [← h2, h.2.1]; rfl⟩
theorem out_home {rs : List Rn} {runs bs : List Int} {b : Int} (hb : b ∈ bs) : ∀ (q : List Ed) (u : Int), IsW (dnE rs runs) u q b → ∃ p, IsW (egE rs runs bs) u p 0
  | [], u, h => by
    have e : u = b := h
    subst e
    obtain ⟨e, he, h1, h2, _⟩ := egE_base (rs := rs) (runs := runs) hb
    exact ⟨[e], he, h1, h2⟩
  | e :: q, u, h => by
    obtain ⟨p, hp⟩ := out_home hb q e.tt h.2.2
    obtain ⟨r, h1, h2, rfl⟩ := dnE_mem.1 h.1
    obtain ⟨a, ha, h3, h4⟩ := egE_run (bs := bs) h1 h2
    exact ⟨a :: p, ha, by rw [h3]; exact h.2.1, by rw [h4]; exact hp⟩
/-- the ways home -/
def HomeI (rs : List Rn) (bs runs : List Int) (u : Int) : Prop := ∃ b ∈ bs, ∃ q, IsW (dnE rs runs) u q b
structure WaOK (nd : List Nd) (rs : List Rn) (bs : List Int) : Prop where
  eg : EgOK nd rs bs
  runs : ∀ x ∈ rs, hasN nd x.fr = true ∧ hasN nd x.tt = true
  bases : ∀ x ∈ bs, hasN nd x = true
theorem WaOK.tt {nd : List Nd} {rs : List Rn} {bs : List Int} (h : WaOK nd rs bs) : ∀ r ∈ rs, r.tt ≠ 0 := fun r hr => by
  have := h.eg.nodes _ (h.runs r hr).2
  omega
theorem WaOK.cost {nd : List Nd} {rs : List Rn} {bs : List Int} (h : WaOK nd rs bs) (runs : List Int) : ∀ e ∈ egE rs runs bs, 0 < e.cst := fun e he => by
  rcases egE_mem he with ⟨r, h1, _, _, _, h2⟩ | ⟨b, _, _, _, h2⟩
  · have := h.eg.runs r h1
    omega
  · omega
theorem eg_home {nd : List Nd} {rs : List Rn} {bs runs : List Int} {node M : Int} (h : WaOK nd rs bs) (hM : EgV nd rs bs runs node M) : 0 < M ↔ HomeI rs bs runs node := by
  unfold EgV at hM
  split at hM
  · rename_i hn
    have h1 := h.eg.nodes _ hn
    rw [hM.pos (h.cost runs)]
    constructor
    · rintro ⟨p, hp⟩; exact home_out h.tt p node (by omega) hp
    · rintro ⟨b, hb, q, hq⟩; exact out_home hb q node hq
  · rename_i hn
    subst hM
    constructor
    · intro h0; omega
    · rintro ⟨b, hb, q, hq⟩
      cases q with
      | nil =>
        have e : node = b := hq
        rw [e] at hn
        exact absurd (h.bases b hb) hn
      | cons e q =>
        obtain ⟨r, h1, h2, rfl⟩ := dnE_mem.1 hq.1
        have e : r.fr = node := hq.2.1
        rw [← e] at hn
        exact absurd (h.runs r h1).1 hn
theorem eg_more {nd : List Nd} {rs : List Rn} {bs runs more : List Int} {node M N : Int} (h : WaOK nd rs bs) (hM : EgV nd rs bs runs node M) (hN : EgV nd rs bs (runs ++ more) node N) : M ≤ N := by
  unfold EgV at hM hN
  split at hM
  · rename_i hn
    rw [if_pos hn] at hN
    refine hM.mono hN ?_ fun e he => Int.le_of_lt (h.cost _ e he)
    show ((egE rs runs bs).map e3).Sublist ((egE rs (runs ++ more) bs).map e3)
    rw [egE_e3, egE_e3]
    refine List.Sublist.append (List.Sublist.map _ ?_) (List.Sublist.refl _)
    have key : ∀ l : List Rn, (l.filter fun r => runs.contains r.id).Sublist (l.filter fun r => (runs ++ more).contains r.id) := by
      intro l
      induction l with
      | nil => exact .slnil
      | cons r l ih =>
        rw [List.filter_cons, List.filter_cons]
        by_cases hc : runs.contains r.id = true
        · have hc2 : (runs ++ more).contains r.id = true := by
            rw [List.contains_iff_mem] at hc ⊢
            exact List.mem_append_left _ hc
          rw [if_pos hc, if_pos hc2]
          exact ih.cons_cons _
        · rw [if_neg hc]
          split
          · exact ih.cons _
          · exact ih
    exact key rs
  · rename_i hn
    rw [if_neg hn] at hN
    omega
theorem eg_base {nd : List Nd} {rs : List Rn} {bs runs : List Int} {node M : Int} (h : WaOK nd rs bs) (hM : EgV nd rs bs runs node M) (hb : node ∈ bs) : 1000000 ≤ M := by
  unfold EgV at hM
  rw [if_pos (h.bases _ hb)] at hM
  obtain ⟨e, he, h1, h2, h3⟩ := egE_base (rs := rs) (runs := runs) hb
  rw [← h3]
  exact hM.ge_edge (fun e he => Int.le_of_lt (h.cost _ e he)) he h1 h2
/-- what the listed runs that begin at a node take -/
def outN (rs : List Rn) (runs : List Int) (node : Int) : Int := (rs.map fun r => if r.fr = node ∧ runs.contains r.id = true then (5 - r.gr) * 500 else 0).sum
theorem out_snoc {rs : List Rn} {runs : List Int} {node : Int} {k : Nat} (h : k < rs.length) : outN (rs.take (k + 1)) runs node = outN (rs.take k) runs node + if (rs.getD k rn0).fr = node ∧ runs.contains (rs.getD k rn0).id = true then (5 - (rs.getD k rn0).gr) * 500 else 0 := by
  have e : rs.take (k + 1) = rs.take k ++ [rs.getD k rn0] := by
    rw [List.take_succ_eq_append_getElem h]
    simp [List.getElem?_eq_getElem h]
  rw [e]
  unfold outN
  rw [List.map_append, List.sum_append]
  simp
theorem outN_take {rs : List Rn} {runs : List Int} {node : Int} (h : ∀ x ∈ rs, 1 ≤ x.gr ∧ x.gr ≤ 4) : ∀ k, k ≤ rs.length → 0 ≤ outN (rs.take k) runs node ∧ outN (rs.take k) runs node ≤ 2000 * (k : Int)
  | 0, _ => by simp [outN]
  | k + 1, hk => by
    have ih := outN_take (runs := runs) (node := node) h k (by omega)
    have h1 := h (rs.getD k rn0) (by simp [List.getElem?_eq_getElem (show k < rs.length by omega)])
    rw [out_snoc (by omega)]
    split <;> omega
theorem eg_bound {nd : List Nd} {rs : List Rn} {bs runs : List Int} {node M : Int} (h : WaOK nd rs bs) (hM : EgV nd rs bs runs node M) (hb : node ∉ bs) : M ≤ outN rs runs node := by
  have hg : ∀ x ∈ rs, 1 ≤ x.gr ∧ x.gr ≤ 4 := fun x hx => (h.eg.runs x hx).2.2
  unfold EgV at hM
  split at hM
  · rename_i hn
    have h1 := h.eg.nodes _ hn
    have h2 := hM.le_out (by omega) fun e he => Int.le_of_lt (h.cost _ e he)
    refine Int.le_trans h2 (Int.le_of_eq ?_)
    have e1 : ((egE rs runs bs).map fun e => if e.fr = node then e.cst else 0) = ((egE rs runs bs).map e3).map fun t => if t.1 = node then t.2.2 else 0 := by rw [List.map_map]; rfl
    rw [e1, egE_e3, List.map_append, List.sum_append, List.map_map, List.map_map]
    have z : (bs.map ((fun t : Int × Int × Int => if t.1 = node then t.2.2 else 0) ∘ fun b => (b, 0, 1000000))).sum = 0 := by
      have key : ∀ l : List Int, (∀ b ∈ l, b ≠ node) → (l.map ((fun t : Int × Int × Int => if t.1 = node then t.2.2 else 0) ∘ fun b => (b, 0, 1000000))).sum = 0 := by
        intro l
        induction l with
        | nil => intro _; rfl
        | cons b l ih =>
          intro hl
          rw [List.map_cons, List.sum_cons, ih fun x hx => hl x (by simp [hx])]
          simp [hl b (by simp)]
      exact key bs fun b hb' e => hb (e ▸ hb')
    rw [z, Int.add_zero]
    unfold outN
    clear e1 z h2
    have key : ∀ l : List Rn, ((l.filter fun r => runs.contains r.id).map ((fun t : Int × Int × Int => if t.1 = node then t.2.2 else 0) ∘ fun r => (r.fr, r.tt, (5 - r.gr) * 500))).sum = (l.map fun r => if r.fr = node ∧ runs.contains r.id = true then (5 - r.gr) * 500 else 0).sum := by
      intro l
      induction l with
      | nil => rfl
      | cons r l ih =>
        rw [List.filter_cons, List.map_cons, List.sum_cons]
        by_cases hc : runs.contains r.id = true
        · rw [if_pos hc, List.map_cons, List.sum_cons, ih]
          simp only [Function.comp_apply, hc, and_true]
        · rw [if_neg hc, ih, if_neg fun h => hc h.2]
          omega
    exact key rs
  · subst hM
    have := (outN_take (runs := runs) (node := node) hg rs.length (Nat.le_refl _)).1
    rwa [List.take_length] at this
theorem HomeI.dec (rs : List Rn) (bs runs : List Int) (u : Int) : ∃ b : Bool, b = true ↔ HomeI rs bs runs u := ⟨@decide (HomeI rs bs runs u) (Classical.propDecidable _), by simp⟩
end Go.Proofs.Ytihmboibpjfohaa
