/-
  Plain laws of chapter 8: exchanged rows, a row of zeros, a row left out. No program is in sight.
-/
import Derived.Test.YtgmefnddbiofkaaAssignM
namespace Go.Proofs.Ytgmefnddbiofkaa

theorem costA_set : ∀ (rows : List (List Int)) (q : List Nat) (i : Nat) (r : List Int) (k : Nat), i < rows.length → i < q.length →
    costA (rows.set i r) (q.set i k) = costA rows q - (rows.getD i []).getD (q.getD i 0) 0 + r.getD k 0
  | _ :: _, _ :: _, 0, _, _, _, _ => by simp [costA]; omega
  | x :: rows, y :: q, i + 1, r, k, h1, h2 => by
    have ih := costA_set rows q i r k (by simpa using h1) (by simpa using h2)
    simp only [List.set_cons_succ, costA, ih, List.getD_cons_succ]
    omega
  | [], _, _, _, _, h1, _ => by simp at h1
  | _ :: _, [], _, _, _, _, h2 => by simp at h2
theorem costA_ins : ∀ (rows : List (List Int)) (q : List Nat) (a k : Nat), a < rows.length → a ≤ q.length →
    costA rows (q.take a ++ k :: q.drop a) = costA (rows.eraseIdx a) q + (rows.getD a []).getD k 0
  | x :: rows, q, 0, k, _, _ => by simp [costA]; omega
  | x :: rows, y :: q, a + 1, k, h1, h2 => by
    have ih := costA_ins rows q a k (by simpa using h1) (by simpa using h2)
    simp only [List.take_succ_cons, List.drop_succ_cons, List.cons_append, costA, ih, List.eraseIdx_cons_succ, List.getD_cons_succ]
    omega
  | [], _, _, _, h1, _ => by simp at h1
  | _ :: _, [], _ + 1, _, _, h2 => by simp at h2
/-- two elements exchanged -/
def swapL {α : Type} (l : List α) (d : α) (a b : Nat) : List α := (l.set a (l.getD b d)).set b (l.getD a d)
theorem swapL_len {α : Type} (l : List α) (d : α) (a b : Nat) : (swapL l d a b).length = l.length := by simp [swapL]
theorem swapL_perm {α : Type} {l : List α} {d : α} {a b : Nat} (ha : a < l.length) (hb : b < l.length) : (swapL l d a b).Perm l := by
  unfold swapL
  have e1 : l.getD a d = l[a] := by simp [List.getElem?_eq_getElem ha]
  have e2 : l.getD b d = l[b] := by simp [List.getElem?_eq_getElem hb]
  rw [e1, e2]
  exact List.set_set_perm ha hb
theorem getD_set {α : Type} {l : List α} {d x : α} {a b : Nat} (hb : b < l.length) : (l.set a x).getD b d = if a = b then x else l.getD b d := by
  simp only [List.getD_eq_getElem?_getD, List.getElem?_set]
  by_cases h : a = b
  · subst h; simp [hb]
  · simp [h]
theorem swap_cost {rows : List (List Int)} {q : List Nat} {a b : Nat} (ha : a < rows.length) (hb : b < rows.length) (hq : q.length = rows.length) :
    costA (swapL rows [] a b) (swapL q 0 a b) = costA rows q := by
  unfold swapL
  rw [costA_set _ _ _ _ _ (by simpa using hb) (by simp; omega), costA_set _ _ _ _ _ ha (by omega), getD_set hb, getD_set (l := q) (by omega)]
  by_cases h : a = b
  · subst h
    simp
  · rw [if_neg h, if_neg h]
    omega
theorem swap_mem {C m : Nat} {q : List Nat} {a b : Nat} (h : q ∈ allA C m []) (ha : a < m) (hb : b < m) : swapL q 0 a b ∈ allA C m [] := by
  obtain ⟨h1, h2, h3⟩ := (mem_allA C m [] q).1 h
  have hp := swapL_perm (l := q) (d := 0) (a := a) (b := b) (by omega) (by omega)
  exact (mem_allA C m [] _).2 ⟨by rw [swapL_len, h1], hp.nodup_iff.2 h2, fun k hk => h3 k (hp.mem_iff.1 hk)⟩
theorem swap_swap {α : Type} {l : List α} {d : α} {a b : Nat} (ha : a < l.length) (hb : b < l.length) : swapL (swapL l d a b) d a b = l := by
  unfold swapL
  refine List.ext_getElem? fun i => ?_
  simp only [List.getD_eq_getElem?_getD, List.getElem?_set, List.length_set]
  by_cases h1 : b = i
  · subst h1
    by_cases h2 : a = b
    · subst h2; simp [ha]
    · simp [hb, ha, h2, Ne.symm h2, List.getElem?_eq_getElem hb]
  · by_cases h2 : a = i
    · subst h2
      simp [hb, ha, h1, List.getElem?_eq_getElem ha]
    · simp [h1, h2]
theorem swap_rows {rows : List (List Int)} {a b : Nat} (ha : a < rows.length) (hb : b < rows.length) {r : List Int} (h : r ∈ swapL rows [] a b) : r ∈ rows := (swapL_perm ha hb).mem_iff.1 h
theorem cols_mem {rows : List (List Int)} (h : 0 < rows.length) : ∃ r ∈ rows, colsR rows = r.length ∧ (rows.getD 0 []).length = r.length := by
  match rows, h with
  | r :: rows, _ => exact ⟨r, by simp, rfl, rfl⟩
theorem right_of {rows rows' : List (List Int)} (hR : RightM rows) (h0 : 0 < rows.length) (hl : rows'.length ≤ rows.length) (h : ∀ r ∈ rows', r.length = colsR rows ∧ ∀ x ∈ r, 0 ≤ x ∧ x ≤ 1000000) : RightM rows' ∧ (0 < rows'.length → colsR rows' = colsR rows) := by
  obtain ⟨r0, hr0, e0, e1⟩ := cols_mem h0
  have hc8 : colsR rows ≤ 8 := by rw [e0]; exact hR.wide r0 hr0
  have hcl : rows.length ≤ colsR rows := by rw [e0]; exact (hR.same r0 hr0).2
  refine ⟨⟨Nat.le_trans hl hR.few, fun r hr => by rw [(h r hr).1]; exact hc8, fun r hr => ?_, fun r hr => (h r hr).2⟩, fun hp => ?_⟩
  · obtain ⟨r1, hr1, _, e3⟩ := cols_mem (rows := rows') (List.length_pos_of_mem hr)
    rw [e3, (h r hr).1, (h r1 hr1).1]
    exact ⟨rfl, Nat.le_trans hl hcl⟩
  · obtain ⟨r1, hr1, e2, _⟩ := cols_mem hp
    rw [e2, (h r1 hr1).1]
theorem right_mem {rows : List (List Int)} (hR : RightM rows) {r : List Int} (h : r ∈ rows) : r.length = colsR rows ∧ ∀ x ∈ r, 0 ≤ x ∧ x ≤ 1000000 := by
  obtain ⟨r0, hr0, e0, e1⟩ := cols_mem (List.length_pos_of_mem h)
  exact ⟨by rw [(hR.same r h).1, e1, e0], hR.bound r h⟩
theorem swap_right {rows : List (List Int)} {a b : Nat} (hR : RightM rows) (ha : a < rows.length) (hb : b < rows.length) : RightM (swapL rows [] a b) ∧ colsR (swapL rows [] a b) = colsR rows := by
  obtain ⟨h1, h2⟩ := right_of (rows' := swapL rows [] a b) hR (by omega) (by rw [swapL_len]; exact Nat.le_refl _) fun r hr => right_mem hR (swap_rows ha hb hr)
  exact ⟨h1, h2 (by rw [swapL_len]; omega)⟩
theorem swap_best {rows : List (List Int)} {a b : Nat} (hR : RightM rows) (ha : a < rows.length) (hb : b < rows.length) {p q : List Nat} {n m : Int} (hp : IsBest (colsR rows) rows p n)
    (hq : IsBest (colsR (swapL rows [] a b)) (swapL rows [] a b) q m) : n = m := by
  rw [(swap_right hR ha hb).2] at hq
  have hpl := ((mem_allA _ _ _ _).1 hp.mem).1
  have hql := ((mem_allA _ _ _ _).1 hq.mem).1
  rw [swapL_len] at hql
  have h1 := hq.least (swapL p 0 a b) (by rw [swapL_len]; exact swap_mem hp.mem ha hb)
  rw [swap_cost ha hb hpl, hp.cost] at h1
  have h2 := hp.least (swapL q 0 a b) (swap_mem (by have h := hq.mem; rwa [swapL_len] at h) ha hb)
  have h3 := swap_cost (rows := swapL rows [] a b) (q := q) (a := a) (b := b) (by rw [swapL_len]; exact ha) (by rw [swapL_len]; exact hb) (by rw [swapL_len, hql])
  rw [swap_swap ha hb, hq.cost] at h3
  omega
/-! ### a row of zeros, a row left out -/
def zeroL (n : Nat) : List Int := List.replicate n 0
theorem zero_at (n k : Nat) : (zeroL n).getD k 0 = 0 := by
  unfold zeroL
  rw [List.getD_eq_getElem?_getD, List.getElem?_replicate]
  by_cases h : k < n
  · rw [if_pos h]; rfl
  · rw [if_neg h]; rfl
theorem free_right {rows : List (List Int)} {a : Nat} (hR : RightM rows) (ha : a < rows.length) : RightM (rows.set a (zeroL (colsR rows))) ∧ colsR (rows.set a (zeroL (colsR rows))) = colsR rows := by
  obtain ⟨h1, h2⟩ := right_of (rows' := rows.set a (zeroL (colsR rows))) hR (by omega) (by simp) fun r hr => by
    rcases List.mem_or_eq_of_mem_set hr with h | rfl
    · exact right_mem hR h
    · exact ⟨by simp [zeroL], fun x hx => by obtain rfl := (List.mem_replicate.1 hx).2; omega⟩
  exact ⟨h1, h2 (by simp; omega)⟩
theorem less_right {rows : List (List Int)} {a : Nat} (hR : RightM rows) (ha : a < rows.length) : RightM (rows.eraseIdx a) ∧ (0 < (rows.eraseIdx a).length → colsR (rows.eraseIdx a) = colsR rows) :=
  right_of hR (by omega) (by rw [List.length_eraseIdx]; split <;> omega) fun _ hr => right_mem hR (List.mem_of_mem_eraseIdx hr)
theorem less_mem {rows : List (List Int)} {a : Nat} (hR : RightM rows) (ha : a < rows.length) (q : List Nat) : q ∈ allA (colsR (rows.eraseIdx a)) (rows.eraseIdx a).length [] ↔ q ∈ allA (colsR rows) (rows.length - 1) [] := by
  have hl : (rows.eraseIdx a).length = rows.length - 1 := by rw [List.length_eraseIdx, if_pos ha]
  rw [hl]
  by_cases h0 : rows.length - 1 = 0
  · rw [h0]
    simp [allA]
  · rw [(less_right hR ha).2 (by omega)]
theorem set_same {α : Type} (l : List α) (a : Nat) (d : α) (h : a < l.length) : l.set a (l.getD a d) = l := by
  have e : l.getD a d = l[a] := by simp [List.getElem?_eq_getElem h]
  rw [e]
  exact List.set_getElem_self h
theorem free_le {rows : List (List Int)} {a : Nat} (hR : RightM rows) (ha : a < rows.length) {p q : List Nat} {n x : Int} (hp : IsBest (colsR rows) rows p n)
    (hq : IsBest (colsR (rows.set a (zeroL (colsR rows)))) (rows.set a (zeroL (colsR rows))) q x) : x ≤ n := by
  rw [(free_right hR ha).2] at hq
  have hpl := ((mem_allA _ _ _ _).1 hp.mem).1
  have h1 := hq.least p (by rw [List.length_set]; exact hp.mem)
  have h2 := costA_set rows p a (zeroL (colsR rows)) (p.getD a 0) ha (by omega)
  rw [set_same p a 0 (by omega), zero_at, hp.cost] at h2
  have h3 : 0 ≤ (rows.getD a []).getD (p.getD a 0) 0 := hR.nn _ (by simp [List.getElem?_eq_getElem ha]) _
  omega
theorem room {C : Nat} {q : List Nat} (h : q.length < C) : ∃ k, k < C ∧ k ∉ q := by
  refine Classical.byContradiction fun hno => ?_
  have hall : ∀ k, k < C → k ∈ q := fun k hk => Classical.byContradiction fun hn => hno ⟨k, hk, hn⟩
  have key : ∀ (l out : List Nat), l.Nodup → (∀ x ∈ l, x ∈ out) → l.length ≤ out.length := by
    intro l
    induction l with
    | nil => intro out _ _; exact Nat.zero_le _
    | cons x l ih =>
      intro out h1 h2
      have hx := h2 x (by simp)
      obtain ⟨h3, h4⟩ := List.nodup_cons.1 h1
      have h5 := ih (out.erase x) h4 fun y hy => by
        have hne : y ≠ x := fun e => by subst e; exact h3 hy
        exact (List.mem_erase_of_ne hne).2 (h2 y (by simp [hy]))
      rw [List.length_erase_of_mem hx] at h5
      have := List.length_pos_of_mem hx
      simp only [List.length_cons]
      omega
  have := key (List.range C) q List.nodup_range fun x hx => hall x (List.mem_range.1 hx)
  rw [List.length_range] at this
  omega
theorem less_free {rows : List (List Int)} {a : Nat} (hR : RightM rows) (ha : a < rows.length) {p q : List Nat} {x y : Int}
    (hp : IsBest (colsR (rows.set a (zeroL (colsR rows)))) (rows.set a (zeroL (colsR rows))) p x) (hq : IsBest (colsR (rows.eraseIdx a)) (rows.eraseIdx a) q y) : x = y := by
  rw [(free_right hR ha).2] at hp
  have hfl : (rows.set a (zeroL (colsR rows))).length = rows.length := by simp
  have her : (rows.set a (zeroL (colsR rows))).eraseIdx a = rows.eraseIdx a := by
    refine List.ext_getElem? fun i => ?_
    simp only [List.getElem?_eraseIdx, List.getElem?_set]
    by_cases h : i < a
    · rw [if_pos h, if_pos h, if_neg (by omega)]
    · rw [if_neg h, if_neg h, if_neg (by omega)]
  have hz : ((rows.set a (zeroL (colsR rows))).getD a []) = zeroL (colsR rows) := by rw [getD_set ha, if_pos rfl]
  obtain ⟨r0, hr0, e0, _⟩ := cols_mem (rows := rows) (by omega)
  have hcl : rows.length ≤ colsR rows := by rw [e0]; exact (hR.same r0 hr0).2
  have h1 : y ≤ x := by
    obtain ⟨g1, g2, g3⟩ := (mem_allA _ _ _ _).1 hp.mem
    rw [hfl] at g1
    have hpa : a < p.length := by omega
    have hsp : p = p.take a ++ p[a] :: p.drop (a + 1) := by rw [← List.drop_eq_getElem_cons hpa, List.take_append_drop]
    have h2 := costA_ins (rows.set a (zeroL (colsR rows))) (p.take a ++ p.drop (a + 1)) a p[a] (by omega) (by simp; omega)
    have ht : (p.take a).length = a := by rw [List.length_take]; omega
    rw [List.take_left' ht, List.drop_left' ht, ← hsp, her, hz, zero_at, hp.cost] at h2
    have hperm : p.Perm (p[a] :: (p.take a ++ p.drop (a + 1))) := by
      have h := List.perm_middle (a := p[a]) (l₁ := p.take a) (l₂ := p.drop (a + 1))
      rwa [← hsp] at h
    have hnd := hperm.nodup_iff.1 g2
    have h3 := hq.least (p.take a ++ p.drop (a + 1)) ((less_mem hR ha _).2 ((mem_allA _ _ _ _).2 ⟨by simp; omega, (List.nodup_cons.1 hnd).2, fun k hk => g3 k (hperm.mem_iff.2 (List.mem_cons_of_mem _ hk))⟩))
    omega
  have h2 : x ≤ y := by
    obtain ⟨g1, g2, g3⟩ := (mem_allA _ _ _ _).1 ((less_mem hR ha _).1 hq.mem)
    obtain ⟨k, hk, hkq⟩ := room (C := colsR rows) (q := q) (by omega)
    have h2 := costA_ins (rows.set a (zeroL (colsR rows))) q a k (by omega) (by omega)
    rw [her, hz, zero_at, hq.cost] at h2
    have hperm : (q.take a ++ k :: q.drop a).Perm (k :: q) := by
      have h := List.perm_middle (a := k) (l₁ := q.take a) (l₂ := q.drop a)
      rwa [List.take_append_drop] at h
    have h3 := hp.least (q.take a ++ k :: q.drop a) ((mem_allA _ _ _ _).2 ⟨by rw [hperm.length_eq, hfl]; simp; omega, hperm.nodup_iff.2 (List.nodup_cons.2 ⟨hkq, g2⟩), fun j hj => by
      rcases List.mem_cons.1 (hperm.mem_iff.1 hj) with rfl | hj
      · exact ⟨hk, by simp⟩
      · exact g3 j hj⟩)
    omega
  omega
/-! ### the lists that the law makes, row by row -/
theorem free_snoc {rows : List (List Int)} {a k : Nat} {z : List Int} (h : k < rows.length) : ((rows.set a z).take (k + 1)) = (rows.set a z).take k ++ [if a = k then z else rows.getD k []] := by
  rw [List.take_succ_eq_append_getElem (by simpa using h)]
  congr 2
  rw [List.getElem_set]
  simp [List.getElem?_eq_getElem h]
def lessK (rows : List (List Int)) (a k : Nat) : List (List Int) := if k ≤ a then rows.take k else (rows.take k).eraseIdx a
theorem less_at {rows : List (List Int)} {a : Nat} : lessK rows a (a + 1) = lessK rows a a := by
  unfold lessK
  rw [if_neg (by omega), if_pos (Nat.le_refl _)]
  refine List.ext_getElem? fun i => ?_
  simp only [List.getElem?_eraseIdx, List.getElem?_take]
  by_cases h : i < a
  · rw [if_pos h, if_pos h, if_pos (by omega)]
  · rw [if_neg h, if_neg h, if_neg (by omega)]
theorem less_snoc {rows : List (List Int)} {a k : Nat} (h : k < rows.length) (hk : k ≠ a) : lessK rows a (k + 1) = lessK rows a k ++ [rows.getD k []] := by
  have e : rows.take (k + 1) = rows.take k ++ [rows.getD k []] := by
    rw [List.take_succ_eq_append_getElem h]
    simp [List.getElem?_eq_getElem h]
  unfold lessK
  rcases Nat.lt_or_ge k a with h1 | h1
  · rw [if_pos (by omega), if_pos (by omega), e]
  · rw [if_neg (by omega), if_neg (by omega), e, List.eraseIdx_append_of_lt_length (by rw [List.length_take]; omega)]
theorem less_end {rows : List (List Int)} {a : Nat} (h : a < rows.length) : lessK rows a rows.length = rows.eraseIdx a := by
  unfold lessK
  rw [if_neg (by omega), List.take_length]
theorem less_len {rows : List (List Int)} {a k : Nat} (hk : k ≤ rows.length) : (lessK rows a k).length ≤ k := by
  unfold lessK
  split
  · simp; omega
  · rw [List.length_eraseIdx]; simp; split <;> omega
end Go.Proofs.Ytgmefnddbiofkaa
