/-
  Plans of groomers, in plain Lean: what Valid and End say, and that the search's plan is one that ends first.
-/
import Derived.Test.YtbegehooefhiiaaTskM
namespace Go.Proofs.Ytbegehooefhiiaa

theorem idxF_spec {f : Int → Bool} : ∀ (l : List Int) (k : Nat), (idxF f l k = -1 ∧ ∀ x ∈ l, f x = false) ∨ ∃ i, i < l.length ∧ idxF f l k = ((k + i : Nat) : Int) ∧ f (l.getD i 0) = true ∧ ∀ j, j < i → f (l.getD j 0) = false
  | [], _ => .inl ⟨rfl, fun x hx => by cases hx⟩
  | x :: l, k => by
    rw [idxF]
    by_cases h : f x = true
    · rw [if_pos h]
      exact .inr ⟨0, by simp, by simp, by simpa using h, fun j hj => by omega⟩
    · rw [if_neg h]
      have hx : f x = false := by simpa using h
      rcases idxF_spec l (k + 1) with ⟨h1, h2⟩ | ⟨i, h1, h2, h3, h4⟩
      · refine .inl ⟨h1, fun y hy => ?_⟩
        rcases List.mem_cons.1 hy with rfl | hy
        · exact hx
        · exact h2 y hy
      · refine .inr ⟨i + 1, by simp; omega, by rw [h2]; congr 1; omega, by simpa using h3, fun j hj => ?_⟩
        cases j with
        | zero => simpa using hx
        | succ j => simpa using h4 j (by omega)
theorem indI_spec (l : List Int) (x : Int) : (indI l x = -1 ∧ x ∉ l) ∨ ∃ i, i < l.length ∧ indI l x = (i : Int) ∧ l.getD i 0 = x := by
  rcases idxF_spec (f := fun y => y == x) l 0 with ⟨h1, h2⟩ | ⟨i, h1, h2, h3, _⟩
  · exact .inl ⟨h1, fun h => by have := h2 x h; simp at this⟩
  · exact .inr ⟨i, h1, by unfold indI; rw [h2, Nat.zero_add], by simpa using h3⟩
theorem indI_mem {l : List Int} {x : Int} : 0 ≤ indI l x ↔ x ∈ l := by
  rcases indI_spec l x with ⟨h1, h2⟩ | ⟨i, h1, h2, h3⟩
  · rw [h1]; exact ⟨fun h => by omega, fun h => absurd h h2⟩
  · rw [h2]
    refine ⟨fun _ => ?_, fun _ => by omega⟩
    rw [← h3]
    simp [List.getElem?_eq_getElem h1]
theorem indI_at {l : List Int} (hd : l.Nodup) {i : Nat} (hi : i < l.length) : indI l (l.getD i 0) = (i : Int) := by
  have e0 : l.getD i 0 = l[i] := by simp [List.getElem?_eq_getElem hi]
  rcases indI_spec l (l.getD i 0) with ⟨_, h2⟩ | ⟨j, h1, h2, h3⟩
  · exact absurd (by rw [e0]; exact List.getElem_mem hi) h2
  · have e1 : l.getD j 0 = l[j] := by simp [List.getElem?_eq_getElem h1]
    rw [e0, e1] at h3
    have := (List.getElem_inj hd).1 h3
    rw [h2, this]
theorem sub_lenI : ∀ (l m : List Int), l.Nodup → (∀ x ∈ l, x ∈ m) → l.length ≤ m.length
  | [], _, _, _ => by simp
  | x :: l, m, hd, hs => by
    obtain ⟨h1, h2⟩ := List.nodup_cons.1 hd
    have h3 := sub_lenI l (m.erase x) h2 fun y hy => (List.mem_erase_of_ne (fun e => h1 (by rw [← e]; exact hy))).2 (hs y (by simp [hy]))
    have h4 := List.length_erase_of_mem (hs x (by simp))
    have h5 := List.length_pos_of_mem (hs x (by simp))
    simp only [List.length_cons]
    omega
theorem same_lenI {l m : List Int} (hd : l.Nodup) (hs : ∀ x ∈ l, x ∈ m) (hl : m.length ≤ l.length) : ∀ x ∈ m, x ∈ l := fun x hx => Classical.byContradiction fun hn => by
  have h1 := sub_lenI (x :: l) m (List.nodup_cons.2 ⟨hn, hd⟩) fun y hy => by
    rcases List.mem_cons.1 hy with rfl | hy
    · exact hx
    · exact hs y hy
  simp only [List.length_cons] at h1
  omega

def clashT (a b : Tk) : Bool := a.cl.contains b.run || b.cl.contains a.run
theorem clashT_comm (a b : Tk) : clashT a b = clashT b a := Bool.or_comm _ _
def fitsP (a : Tk) (ws : List Bool) (s : Sh) : Prop := 1 ≤ s.g ∧ s.g ≤ (ws.length : Int) ∧ (a.win = true → ws.getD (s.g - 1).toNat false = true) ∧ 0 ≤ s.fr ∧ s.fr ≤ s.tt ∧ s.tt - s.fr = a.sec
def runsT (ts : List Tk) : List Int := ts.map Tk.run
def tkAt (ts : List Tk) (x : Int) : Tk := ts.getD (indI (runsT ts) x).toNat tk0
/-- shifts that overlap, of one groomer or of tasks that clash -/
def badP (ts : List Tk) (r s : Sh) : Prop := (r.fr < s.tt ∧ s.fr < r.tt) ∧ (r.g = s.g ∨ clashT (tkAt ts r.run) (tkAt ts s.run) = true)
structure VaI (ts : List Tk) (ws : List Bool) (plan : List Sh) (i : Nat) : Prop where
  has : 0 ≤ indI (runsT ts) (plan.getD i sh0).run
  new : (plan.getD i sh0).run ∉ (plan.take i).map Sh.run
  fit : fitsP (tkAt ts (plan.getD i sh0).run) ws (plan.getD i sh0)
  ok : ∀ j, j < i → ¬ badP ts (plan.getD j sh0) (plan.getD i sh0)
def VaP (ts : List Tk) (ws : List Bool) (plan : List Sh) : Prop := plan.length = ts.length ∧ ∀ i, i < plan.length → VaI ts ws plan i
def EndP (plan : List Sh) (r : Int) : Prop := (∀ i, i < plan.length → (plan.getD i sh0).tt ≤ r) ∧ ((plan.length = 0 ∧ r = 0) ∨ ∃ i, i < plan.length ∧ (plan.getD i sh0).tt = r)

structure RtOK (ts : List Tk) (ws : List Bool) : Prop where
  l1 : ts.length ≤ 6
  l2 : 1 ≤ ws.length ∧ ws.length ≤ 3
  each : ∀ t ∈ ts, (1 ≤ t.run ∧ t.run ≤ 9999) ∧ (1 ≤ t.sec ∧ t.sec ≤ 86400) ∧ t.cl.length ≤ 6
  nd : (runsT ts).Nodup
  win : ∀ t ∈ ts, t.win = true → true ∈ ws
def probOf (ts : List Tk) (ws : List Bool) : Prob := ⟨ts.length, ws.length, fun i => (ts.getD i tk0).sec, fun i => (ts.getD i tk0).run, fun i k => !((ts.getD i tk0).win && !(ws.getD k false)), fun i j => clashT (ts.getD i tk0) (ts.getD j tk0)⟩
theorem tk_mem {ts : List Tk} {i : Nat} (h : i < ts.length) : ts.getD i tk0 ∈ ts := by simp [List.getElem?_eq_getElem h]
theorem run_at {ts : List Tk} {i : Nat} (h : i < ts.length) : (runsT ts).getD i 0 = (ts.getD i tk0).run := by simp [runsT, List.getElem?_eq_getElem h]
section
variable {ts : List Tk} {ws : List Bool}
theorem RtOK.dur (h : RtOK ts ws) : ∀ i, i < (probOf ts ws).n → 1 ≤ (probOf ts ws).dur i := fun i hi => (h.each _ (tk_mem hi)).2.1.1
theorem prob_sym (ts : List Tk) (ws : List Bool) : ∀ i j, (probOf ts ws).cl i j = true → (probOf ts ws).cl j i = true := fun i j h => by
  show clashT _ _ = true
  rw [clashT_comm]
  exact h
theorem RtOK.who (h : RtOK ts ws) : ∀ i, i < (probOf ts ws).n → ∃ k, k < (probOf ts ws).w ∧ (probOf ts ws).cap i k = true := fun i hi => by
  cases hw : (ts.getD i tk0).win with
  | false => exact ⟨0, h.l2.1, by show (!((ts.getD i tk0).win && _)) = true; rw [hw]; rfl⟩
  | true =>
    obtain ⟨k, hk, he⟩ := List.getElem_of_mem (h.win _ (tk_mem hi) hw)
    refine ⟨k, hk, ?_⟩
    show (!((ts.getD i tk0).win && !(ws.getD k false))) = true
    rw [hw, show ws.getD k false = true by simp [List.getElem?_eq_getElem hk, he]]
    rfl
theorem RtOK.ind (h : RtOK ts ws) {i : Nat} (hi : i < ts.length) : indI (runsT ts) (ts.getD i tk0).run = (i : Int) := by
  rw [← run_at hi]
  exact indI_at h.nd (by unfold runsT; rw [List.length_map]; exact hi)
theorem RtOK.at_ (h : RtOK ts ws) {i : Nat} (hi : i < ts.length) : tkAt ts (ts.getD i tk0).run = ts.getD i tk0 := by
  unfold tkAt
  rw [h.ind hi]
  rfl
/-- the search's plan is one -/
theorem part_va (h : RtOK ts ws) {P : List Sh} {E : Int} (hp : Part (probOf ts ws) P E) (hg : ∀ i, i < (probOf ts ws).n → (P.getD i sh0).g ≠ 0) : VaP ts ws P := by
  refine ⟨hp.len, fun i hi => ?_⟩
  rw [hp.len] at hi
  have hi' : i < ts.length := hi
  obtain ⟨k, h1, h2, h3, h4, h5, h6⟩ := hp.shape i hi (hg i hi)
  have hrun : (P.getD i sh0).run = (ts.getD i tk0).run := h4
  have htk : tkAt ts (P.getD i sh0).run = ts.getD i tk0 := by rw [hrun, h.at_ hi']
  have hsec := (h.each _ (tk_mem hi')).2.1
  refine ⟨by rw [hrun, h.ind hi']; omega, fun hm => ?_, ?_, fun j hj hb => ?_⟩
  · obtain ⟨s, hs, he⟩ := List.mem_map.1 hm
    obtain ⟨j, hj, hjs⟩ := List.getElem_of_mem hs
    rw [List.length_take] at hj
    have hji : j < i := by omega
    have hjn : j < (probOf ts ws).n := by omega
    have e1 : P.getD j sh0 = s := by
      rw [← hjs, List.getElem_take]
      have : j < P.length := by omega
      simp [List.getElem?_eq_getElem this]
    have h7 : (P.getD j sh0).run = (ts.getD j tk0).run := (hp.shape j hjn (hg j hjn)).choose_spec.2.2.2.1
    rw [← e1, h7, hrun] at he
    have hj' : j < ts.length := hjn
    have := h.ind hj'
    rw [he, h.ind hi'] at this
    omega
  · rw [htk]
    refine ⟨by rw [h2]; omega, by rw [h2]; have : k < ws.length := h1; omega, fun hw => ?_, h5, by rw [h6]; show _ ≤ _ + (ts.getD i tk0).sec; omega, by rw [h6]; show _ + (ts.getD i tk0).sec - _ = _; omega⟩
    have h8 : (!((ts.getD i tk0).win && !(ws.getD k false))) = true := h3
    rw [hw] at h8
    rw [h2, show ((k : Int) + 1 - 1).toNat = k by omega]
    simpa using h8
  · have hjn : j < (probOf ts ws).n := by omega
    have hj' : j < ts.length := hjn
    obtain ⟨⟨b1, b2⟩, b3⟩ := hb
    have hrj : (P.getD j sh0).run = (ts.getD j tk0).run := (hp.shape j hjn (hg j hjn)).choose_spec.2.2.2.1
    rw [hrj, h.at_ hj', htk] at b3
    have := hp.apart j i hjn hi (by omega) (hg j hjn) (hg i hi) (b3.imp id fun b => .inl b)
    omega
theorem part_end {P : List Sh} {E r : Int} (h : RtOK ts ws) (hp : Part (probOf ts ws) P E) (hg : ∀ i, i < (probOf ts ws).n → (P.getD i sh0).g ≠ 0) (hr : EndP P r) : r = E := by
  obtain ⟨h1, h2⟩ := hr
  have hl := hp.len
  have key : ∀ i, i < (probOf ts ws).n → 1 ≤ (P.getD i sh0).tt := fun i hi => by
    obtain ⟨k, _, _, _, _, h5, h6⟩ := hp.shape i hi (hg i hi)
    have := h.dur i hi
    omega
  rcases h2 with ⟨h3, rfl⟩ | ⟨i, h3, h4⟩
  · rcases hp.tight with h5 | ⟨j, h5, _⟩
    · exact h5.symm
    · omega
  · have h5 := hp.top i (by omega) (hg i (by omega))
    rcases hp.tight with h6 | ⟨j, h6, h7, h8⟩
    · have := key i (by omega)
      omega
    · have := h1 j (by omega)
      omega
theorem part_sec {P : List Sh} {E : Int} (hp : Part (probOf ts ws) P E) (hg : ∀ i, i < (probOf ts ws).n → (P.getD i sh0).g ≠ 0) {i : Nat} (hi : i < ts.length) : (ts.getD i tk0).sec ≤ E := by
  obtain ⟨k, _, _, _, _, h5, h6⟩ := hp.shape i hi (hg i hi)
  have h7 := hp.top i hi (hg i hi)
  have h8 : (P.getD i sh0).tt = (P.getD i sh0).fr + (ts.getD i tk0).sec := h6
  omega
def secN (ts : List Tk) : Int := (ts.map Tk.sec).sum
theorem sum_swap {p : Prob} {P : List Sh} (n w : Nat) (hsh : ∀ i, i < n → ∃ k, k < w ∧ (P.getD i sh0).g = (k : Int) + 1) : ((List.range n).map p.dur).sum = ((List.range w).map fun k => ((List.range n).map fun i => if (P.getD i sh0).g = ((k : Nat) : Int) + 1 then p.dur i else 0).sum).sum := by
  induction n with
  | zero =>
    have : ∀ l : List Nat, (l.map fun k => ((List.range 0).map fun i => if (P.getD i sh0).g = ((k : Nat) : Int) + 1 then p.dur i else 0).sum).sum = 0 := fun l => by
      induction l with
      | nil => rfl
      | cons a l ih => simpa using ih
    rw [this]
    rfl
  | succ n ih =>
    have h1 := ih fun i hi => hsh i (by omega)
    obtain ⟨k, hk, hg⟩ := hsh n (by omega)
    have e1 : ((List.range w).map fun q => ((List.range (n + 1)).map fun i => if (P.getD i sh0).g = ((q : Nat) : Int) + 1 then p.dur i else 0).sum).sum = ((List.range w).map fun q => ((List.range n).map fun i => if (P.getD i sh0).g = ((q : Nat) : Int) + 1 then p.dur i else 0).sum).sum + p.dur n := by
      rw [sum_change w k hk (fun q => ((List.range (n + 1)).map fun i => if (P.getD i sh0).g = ((q : Nat) : Int) + 1 then p.dur i else 0).sum) (fun q => ((List.range n).map fun i => if (P.getD i sh0).g = ((q : Nat) : Int) + 1 then p.dur i else 0).sum) fun j hj => ?_]
      · simp only [List.range_succ, List.map_append, List.sum_append, List.map_cons, List.map_nil, List.sum_cons, List.sum_nil]
        rw [if_pos hg]
        omega
      · simp only [List.range_succ, List.map_append, List.sum_append, List.map_cons, List.map_nil, List.sum_cons, List.sum_nil]
        rw [if_neg (by rw [hg]; omega)]
        omega
    rw [e1, ← h1, List.range_succ, List.map_append, List.sum_append]
    simp
theorem sum_le (n : Nat) (f : Nat → Int) (E : Int) (h : ∀ k, k < n → f k ≤ E) : ((List.range n).map f).sum ≤ E * (n : Int) := by
  induction n with
  | zero => simp
  | succ n ih =>
    have h1 := ih fun k hk => h k (by omega)
    have h2 := h n (by omega)
    rw [List.range_succ, List.map_append, List.sum_append]
    simp only [List.map_cons, List.map_nil, List.sum_cons, List.sum_nil]
    rw [show ((n + 1 : Nat) : Int) = (n : Int) + 1 by omega, Int.mul_add]
    omega
theorem map_range {α : Type} (l : List α) (d : α) (f : α → Int) : l.map f = (List.range l.length).map fun i => f (l.getD i d) := by
  refine List.ext_getElem (by simp) fun i h1 h2 => ?_
  simp at h1
  simp [List.getElem?_eq_getElem h1]
theorem part_sum {P : List Sh} {E : Int} (hp : Part (probOf ts ws) P E) (hg : ∀ i, i < (probOf ts ws).n → (P.getD i sh0).g ≠ 0) : secN ts ≤ E * (ws.length : Int) := by
  have e1 : secN ts = ((List.range ts.length).map (probOf ts ws).dur).sum := by
    unfold secN
    rw [map_range ts tk0 Tk.sec]
    rfl
  rw [e1, sum_swap (P := P) ts.length ws.length fun i hi => by
    obtain ⟨k, h1, h2, _⟩ := hp.shape i hi (hg i hi)
    exact ⟨k, h1, h2⟩]
  refine sum_le _ _ E fun k hk => ?_
  obtain ⟨B, b1, b2, _⟩ := hp.load k hk
  exact Int.le_trans b1 b2
/-- whatever plan is valid: a plan of starts and groomers -/
theorem va_feas (h : RtOK ts ws) {plan : List Sh} (hv : VaP ts ws plan) {r : Int} (hr : EndP plan r) : 0 ≤ r ∧ ∃ (gr : Nat → Nat) (st : Nat → Int), Feas (probOf ts ws) st gr r := by
  obtain ⟨hl, hall⟩ := hv
  have hr0 : 0 ≤ r := by
    rcases hr.2 with ⟨_, h1⟩ | ⟨i, h1, h2⟩
    · omega
    · have := (hall i h1).fit
      obtain ⟨_, _, _, f1, f2, _⟩ := this
      omega
  have hrl : (runsT ts).length = ts.length := by unfold runsT; rw [List.length_map]
  have hpl : (plan.map Sh.run).length = plan.length := by rw [List.length_map]
  have hpr : ∀ i, i < plan.length → (plan.map Sh.run).getD i 0 = (plan.getD i sh0).run := fun i hi => by simp [List.getElem?_eq_getElem hi]
  have hnd : (plan.map Sh.run).Nodup := by
    rw [List.nodup_iff_pairwise_ne, List.pairwise_iff_getElem]
    intro i j hi hj hij he
    rw [hpl] at hj
    refine (hall j hj).new ?_
    have e1 : (plan.getD j sh0).run = (plan.map Sh.run)[j]'(by omega) := by simp [List.getElem?_eq_getElem hj]
    rw [e1, ← he]
    rw [List.getElem_map]
    refine List.mem_map.2 ⟨plan[i]'(by omega), ?_, rfl⟩
    have : (plan.take j)[i]'(by rw [List.length_take]; omega) = plan[i]'(by omega) := List.getElem_take
    rw [← this]
    exact List.getElem_mem _
  have hsub : ∀ x ∈ plan.map Sh.run, x ∈ runsT ts := fun x hx => by
    obtain ⟨i, hi, rfl⟩ := List.getElem_of_mem hx
    rw [hpl] at hi
    have := (hall i hi).has
    rw [indI_mem] at this
    have e1 : (plan.getD i sh0).run = (plan.map Sh.run)[i]'(by omega) := by simp [List.getElem?_eq_getElem hi]
    rwa [e1] at this
  have hall2 : ∀ x ∈ runsT ts, x ∈ plan.map Sh.run := same_lenI hnd hsub (by omega)
  have hσ : ∀ j, j < ts.length → ∃ i, i < plan.length ∧ indI (plan.map Sh.run) (ts.getD j tk0).run = (i : Int) ∧ (plan.getD i sh0).run = (ts.getD j tk0).run := fun j hj => by
    rcases indI_spec (plan.map Sh.run) (ts.getD j tk0).run with ⟨_, h2⟩ | ⟨i, h1, h2, h3⟩
    · exact absurd (hall2 _ (by unfold runsT; exact List.mem_map_of_mem (tk_mem hj))) h2
    · rw [hpl] at h1
      rw [hpr i h1] at h3
      exact ⟨i, h1, h2, h3⟩
  refine ⟨hr0, fun j => ((plan.getD (indI (plan.map Sh.run) (ts.getD j tk0).run).toNat sh0).g - 1).toNat, fun j => (plan.getD (indI (plan.map Sh.run) (ts.getD j tk0).run).toNat sh0).fr, fun j hj => ?_, fun j hj => ?_, fun a b ha hb hab hc => ?_, fun j hj => ?_⟩
  · obtain ⟨i, h1, h2, h3⟩ := hσ j hj
    have := (hall i h1).fit.2.2.2.1
    simp only [h2, Int.toNat_natCast]
    exact this
  · obtain ⟨i, h1, h2, h3⟩ := hσ j hj
    obtain ⟨f1, f2, f3, _⟩ := (hall i h1).fit
    have hj' : j < ts.length := hj
    rw [h3, h.at_ hj'] at f3
    simp only [h2, Int.toNat_natCast]
    refine ⟨by show _ < ws.length; omega, ?_⟩
    show (!((ts.getD j tk0).win && !(ws.getD _ false))) = true
    cases hw : (ts.getD j tk0).win with
    | false => rfl
    | true => rw [f3 hw]; rfl
  · obtain ⟨i, i1, i2, i3⟩ := hσ a ha
    obtain ⟨k, k1, k2, k3⟩ := hσ b hb
    have ha' : a < ts.length := ha
    have hb' : b < ts.length := hb
    have hne : i ≠ k := fun e => by
      rw [e, k3] at i3
      have h5 := h.ind ha'
      have h6 := h.ind hb'
      rw [← i3] at h5
      omega
    simp only [i2, k2, Int.toNat_natCast] at hc ⊢
    have fa := (hall i i1).fit
    have fb := (hall k k1).fit
    rw [i3, h.at_ ha'] at fa
    rw [k3, h.at_ hb'] at fb
    obtain ⟨a1, a2, _, a4, a5, a6⟩ := fa
    obtain ⟨b1, b2, _, b4, b5, b6⟩ := fb
    have hcl : clashT (ts.getD a tk0) (ts.getD b tk0) = clashT (ts.getD b tk0) (ts.getD a tk0) := clashT_comm _ _
    have hda : (probOf ts ws).dur a = (ts.getD a tk0).sec := rfl
    have hdb : (probOf ts ws).dur b = (ts.getD b tk0).sec := rfl
    have hc' : (plan.getD i sh0).g = (plan.getD k sh0).g ∨ clashT (ts.getD a tk0) (ts.getD b tk0) = true := by
      rcases hc with hc | hc
      · exact .inl (by omega)
      · exact .inr hc
    rw [hda, hdb]
    rcases Nat.lt_or_ge i k with hik | hik
    · have hb := (hall k k1).ok i hik
      unfold badP at hb
      rw [i3, k3, h.at_ ha', h.at_ hb'] at hb
      refine Classical.byContradiction fun hno => hb ⟨⟨by omega, by omega⟩, hc'⟩
    · have hb := (hall i i1).ok k (by omega)
      unfold badP at hb
      rw [i3, k3, h.at_ ha', h.at_ hb'] at hb
      refine Classical.byContradiction fun hno => hb ⟨⟨by omega, by omega⟩, ?_⟩
      rcases hc' with hc' | hc'
      · exact .inl hc'.symm
      · exact .inr (by rw [← hcl]; exact hc')
  · obtain ⟨i, h1, h2, h3⟩ := hσ j hj
    obtain ⟨_, _, _, _, f2, f3⟩ := (hall i h1).fit
    have hj' : j < ts.length := hj
    rw [h3, h.at_ hj'] at f3
    have := hr.1 i h1
    simp only [h2, Int.toNat_natCast]
    show _ + (ts.getD j tk0).sec ≤ r
    omega
end
end Go.Proofs.Ytbegehooefhiiaa
