/-
  slices.Delete over letters and over rides, walked.
-/
import Derived.Test.YtedeggjefnpjgaaDivG
namespace Go.Proofs.Ytedeggjefnpjgaa
open Go.RowKit

set_option maxRecDepth 100000 in
set_option maxHeartbeats 4000000 in
theorem del_lt (g cap n i : Nat) (cur : Array Value) (w : World) (hB : Blk w g 58 cur) (hs : cur.size = cap * 3) (hn : n ≤ cap) (hc : cap ≤ maxLen) (hi : i < n) (h1 : ∀ u ∈ cur.toList.take (n * 3), u.oneCell' = true) :
    Calls Try.prog 26 #[.slice (some ⟨g, 0, none⟩) n cap, .int .i64 i, .int .i64 ((i : Int) + 1)] w fun e w' => e = .returned (.slice (some ⟨g, 0, none⟩) (n - 1) cap) ∧ (∃ cur', Blk w' g 58 cur' ∧ cur'.size = cap * 3 ∧ cur'.toList.take ((n - 1) * 3) = cur.toList.take (i * 3) ++ (cur.toList.take (n * 3)).drop ((i + 1) * 3)) ∧ Only g w w' := by
  have hcm : cap ≤ 9223372036854775807 := Nat.le_trans hc (by simp [maxLen])
  obtain ⟨news, hnews⟩ : ∃ news, news = (cur.toList.take (n * 3)).drop ((i + 1) * 3) := ⟨_, rfl⟩
  have hlen : news.length = (n - (i + 1)) * 3 := by rw [hnews]; simp; omega
  obtain ⟨A, hA, hsrc⟩ : ∃ A : Addr, (if cap = i + 1 then (some ⟨g, 0, none⟩ : Option Addr) else some ⟨g, (i + 1) * 3, none⟩) = some A ∧ Hid (∀ t u, news[t]? = some u → w.drew.cell? (A.add t) = some u) := by
    have hcell : ∀ t u, news[t]? = some u → w.cell? ⟨g, (i + 1) * 3 + t, none⟩ = some u := fun t u hu => by
      have ht : t < (n - (i + 1)) * 3 := by
        have := (List.getElem?_eq_some_iff.1 hu).1
        omega
      rw [hnews, List.getElem?_drop, List.getElem?_take, if_pos (by omega), Array.getElem?_toList] at hu
      rw [hB.cell]
      exact hu
    by_cases h : cap = i + 1
    · refine ⟨⟨g, 0, none⟩, by simp [h], fun t u hu => ?_⟩
      have ht := (List.getElem?_eq_some_iff.1 hu).1
      omega
    · exact ⟨⟨g, (i + 1) * 3, none⟩, by simp [h], fun t u hu => by rw [Addr.add_lit]; exact hcell t u hu⟩
  have s1 : Hid (news.length = (n - (i + 1)) * 3) := hide hlen
  have s2 : Hid (∀ u ∈ news, u.oneCell' = true) := hide (fun u hu => h1 u (List.mem_of_mem_drop (by rw [← hnews]; exact hu)))
  have s3 : Hid (∀ t, t < news.length → (w.drew.cell? ⟨g, 0 + i * 3 + t, none⟩).isSome = true ∧ w.drew.frozen? ⟨g, 0 + i * 3 + t, none⟩ = false) := hide (fun t ht => by
    refine ⟨?_, hB.frozen _⟩
    have h : w.drew.cell? ⟨g, 0 + i * 3 + t, none⟩ = cur[0 + i * 3 + t]? := hB.cell _
    rw [h, Array.getElem?_eq_getElem (by omega)]
    rfl)
  have hW0 : w.drew.setCells g (0 + i * 3) news = w.drew.setRow g (putL cur.toList (0 + i * 3) news).toArray := setCells_row Try.prog hB.drew (by omega) s2.out
  rw [Nat.zero_add] at hW0
  have hcl : cur.toList.length = cap * 3 := by rw [Array.length_toList, hs]
  have hpl : (putL cur.toList (i * 3) news).length = cap * 3 := by rw [putL_len (by omega), hcl]
  have hB1 : Blk (w.drew.setRow g (putL cur.toList (i * 3) news).toArray) g 58 (putL cur.toList (i * 3) news).toArray := Blk.setRow hB.drew
  have ho1 : Only g w (w.drew.setRow g (putL cur.toList (i * 3) news).toArray) := Only.trans (Only.drew (w := w)) (Only.setRow _ _ _)
  have hm1 : (putL cur.toList (i * 3) news).take (i * 3 + news.length) = cur.toList.take (i * 3) ++ news := putL_mid (by omega) rfl
  rw [← hW0] at hB1 ho1
  obtain ⟨pl, hplx⟩ : ∃ pl, pl = putL cur.toList (i * 3) news := ⟨_, rfl⟩
  rw [← hplx] at hB1 hpl hm1
  have HW0 : Hid (w.drew.setCells g (0 + i * 3) news = w.drew.setCells g (i * 3) news) := hide (by rw [Nat.zero_add])
  obtain ⟨W1, hW1⟩ : ∃ W1, W1 = w.drew.setCells g (0 + i * 3) news := ⟨_, rfl⟩
  rw [Nat.zero_add] at hW1
  have HB1 : Hid (Blk W1 g 58 pl.toArray) := hide (by rw [hW1]; exact hB1)
  have HO1 : Hid (Only g w W1) := hide (by rw [hW1]; exact ho1)
  have HLen := Lib.hid hlen
  have HS := Lib.hid hs
  have HCl : Hid (∀ ty, (Builtin.clear_ #[25] ty #[.slice (some ⟨g, (i + (n - (i + 1))) * 3, none⟩) (n - (i + (n - (i + 1)))) (cap - (i + (n - (i + 1))))]).run Try.prog W1 = .ok (.tuple #[]) (W1.setRow g (putL pl ((i + (n - (i + 1))) * 3) (Builtin.zeroCells (Value.agg #[.int .i64 0, .int .i64 0, .slice none 0 0]).cells (n - (i + (n - (i + 1))))).toList).toArray)) := hide (fun ty => by
    have h := run_clear_blk (P := Try.prog) (w := W1) (t := 25) (ty := ty) Try.underlying25 (z := .agg #[.int .i64 0, .int .i64 0, .slice none 0 0]) (s := 3) (by kernel_rfl) rfl (by intro u hu; simp [Value.cells] at hu; rcases hu with rfl | rfl <;> rfl) ((i + (n - (i + 1))) * 3) (n - (i + (n - (i + 1)))) (cap - (i + (n - (i + 1)))) HB1.out (by rw [List.size_toArray, hpl]; omega)
    simpa using h)
  have HFin : Hid (∀ w', w' = W1.setRow g (putL pl ((i + (n - (i + 1))) * 3) (Builtin.zeroCells (Value.agg #[.int .i64 0, .int .i64 0, .slice none 0 0]).cells (n - (i + (n - (i + 1))))).toList).toArray → (∃ cur', Blk w' g 58 cur' ∧ cur'.size = cap * 3 ∧ cur'.toList.take ((n - 1) * 3) = cur.toList.take (i * 3) ++ news) ∧ Only g w w') := hide (fun w' hw' => by
    subst hw'
    have hzl : (Builtin.zeroCells (Value.agg #[.int .i64 0, .int .i64 0, .slice none 0 0]).cells (n - (i + (n - (i + 1))))).toList.length = (n - (i + (n - (i + 1)))) * 3 := by rw [Array.length_toList, size_zeroCells]; rfl
    refine ⟨⟨_, Blk.setRow HB1.out, ?_, ?_⟩, HO1.out.trans (Only.setRow _ _ _)⟩
    · rw [List.size_toArray, putL_len (by omega), hpl]
    · rw [show (n - 1) * 3 = (i + (n - (i + 1))) * 3 by omega]
      show (putL pl ((i + (n - (i + 1))) * 3) _).take _ = _
      rw [putL_front (by omega) (Nat.le_refl _), ← hm1]
      congr 1
      omega)
  have hic : i ≤ cap := by omega
  have hjc : i + 1 ≤ cap := by omega
  have hj0 : 0 ≤ (i : Int) + 1 := by omega
  have hj1 : (i : Int) + 1 ≤ (n : Int) := by omega
  obtain ⟨i0, hi0, hz0, hz1, hz2⟩ := info_parts (show (Try.prog.info? 58).map (fun i => (i.zero, i.size, i.bytes)) = some (some (.agg #[.int .i64 0, .int .i64 0, .slice none 0 0]), 3, 8 * 5) by kernel_rfl)
  generalize putL pl ((i + (n - (i + 1))) * 3) (Builtin.zeroCells (Value.agg #[.int .i64 0, .int .i64 0, .slice none 0 0]).cells (n - (i + (n - (i + 1))))).toList = pz at *
  have HW1 := Lib.hid hW1
  rw [← hnews]
  clear hW1 hm1 hpl hplx hcl hB1 ho1 hW0 hlen hnews hs hB h1
  go_enter Try.func26, Try.ntmps26
  go_wp2_with fail
  go_region_law (refine step_append_room rfl (.tmp 22) (.tmp 25) 25 rfl 58 i0 3 Try.underlying25 hi0 hz1 g 0 i cap (by simp [Act.eval, Act.put]) A (n - (i + 1)) (cap - (i + 1)) news (by simp [Act.eval, Act.put]) s1.out hsrc.out s2.out (by omega) s3.out ?_; rw [HW0.out, ← HW1.out])
  all_goals
    have hclr := HCl.out
    go_wp2
    go_ret
    have hf := HFin.out _ rfl
    exact ⟨by rw [show n - 1 = i + (n - (i + 1)) by omega]; rfl, hf.1, hf.2⟩
set_option maxRecDepth 100000 in
set_option maxHeartbeats 4000000 in
theorem del_rd (g cap n i : Nat) (cur : Array Value) (w : World) (hB : Blk w g 55 cur) (hs : cur.size = cap * 7) (hn : n ≤ cap) (hc : cap ≤ maxLen) (hi : i < n) (h1 : ∀ u ∈ cur.toList.take (n * 7), u.oneCell' = true) :
    Calls Try.prog 41 #[.slice (some ⟨g, 0, none⟩) n cap, .int .i64 i, .int .i64 ((i : Int) + 1)] w fun e w' => e = .returned (.slice (some ⟨g, 0, none⟩) (n - 1) cap) ∧ (∃ cur', Blk w' g 55 cur' ∧ cur'.size = cap * 7 ∧ cur'.toList.take ((n - 1) * 7) = cur.toList.take (i * 7) ++ (cur.toList.take (n * 7)).drop ((i + 1) * 7)) ∧ Only g w w' := by
  have hcm : cap ≤ 9223372036854775807 := Nat.le_trans hc (by simp [maxLen])
  obtain ⟨news, hnews⟩ : ∃ news, news = (cur.toList.take (n * 7)).drop ((i + 1) * 7) := ⟨_, rfl⟩
  have hlen : news.length = (n - (i + 1)) * 7 := by rw [hnews]; simp; omega
  obtain ⟨A, hA, hsrc⟩ : ∃ A : Addr, (if cap = i + 1 then (some ⟨g, 0, none⟩ : Option Addr) else some ⟨g, (i + 1) * 7, none⟩) = some A ∧ Hid (∀ t u, news[t]? = some u → w.drew.cell? (A.add t) = some u) := by
    have hcell : ∀ t u, news[t]? = some u → w.cell? ⟨g, (i + 1) * 7 + t, none⟩ = some u := fun t u hu => by
      have ht : t < (n - (i + 1)) * 7 := by
        have := (List.getElem?_eq_some_iff.1 hu).1
        omega
      rw [hnews, List.getElem?_drop, List.getElem?_take, if_pos (by omega), Array.getElem?_toList] at hu
      rw [hB.cell]
      exact hu
    by_cases h : cap = i + 1
    · refine ⟨⟨g, 0, none⟩, by simp [h], fun t u hu => ?_⟩
      have ht := (List.getElem?_eq_some_iff.1 hu).1
      omega
    · exact ⟨⟨g, (i + 1) * 7, none⟩, by simp [h], fun t u hu => by rw [Addr.add_lit]; exact hcell t u hu⟩
  have s1 : Hid (news.length = (n - (i + 1)) * 7) := hide hlen
  have s2 : Hid (∀ u ∈ news, u.oneCell' = true) := hide (fun u hu => h1 u (List.mem_of_mem_drop (by rw [← hnews]; exact hu)))
  have s3 : Hid (∀ t, t < news.length → (w.drew.cell? ⟨g, 0 + i * 7 + t, none⟩).isSome = true ∧ w.drew.frozen? ⟨g, 0 + i * 7 + t, none⟩ = false) := hide (fun t ht => by
    refine ⟨?_, hB.frozen _⟩
    have h : w.drew.cell? ⟨g, 0 + i * 7 + t, none⟩ = cur[0 + i * 7 + t]? := hB.cell _
    rw [h, Array.getElem?_eq_getElem (by omega)]
    rfl)
  have hW0 : w.drew.setCells g (0 + i * 7) news = w.drew.setRow g (putL cur.toList (0 + i * 7) news).toArray := setCells_row Try.prog hB.drew (by omega) s2.out
  rw [Nat.zero_add] at hW0
  have hcl : cur.toList.length = cap * 7 := by rw [Array.length_toList, hs]
  have hpl : (putL cur.toList (i * 7) news).length = cap * 7 := by rw [putL_len (by omega), hcl]
  have hB1 : Blk (w.drew.setRow g (putL cur.toList (i * 7) news).toArray) g 55 (putL cur.toList (i * 7) news).toArray := Blk.setRow hB.drew
  have ho1 : Only g w (w.drew.setRow g (putL cur.toList (i * 7) news).toArray) := Only.trans (Only.drew (w := w)) (Only.setRow _ _ _)
  have hm1 : (putL cur.toList (i * 7) news).take (i * 7 + news.length) = cur.toList.take (i * 7) ++ news := putL_mid (by omega) rfl
  rw [← hW0] at hB1 ho1
  obtain ⟨pl, hplx⟩ : ∃ pl, pl = putL cur.toList (i * 7) news := ⟨_, rfl⟩
  rw [← hplx] at hB1 hpl hm1
  have HW0 : Hid (w.drew.setCells g (0 + i * 7) news = w.drew.setCells g (i * 7) news) := hide (by rw [Nat.zero_add])
  obtain ⟨W1, hW1⟩ : ∃ W1, W1 = w.drew.setCells g (0 + i * 7) news := ⟨_, rfl⟩
  rw [Nat.zero_add] at hW1
  have HB1 : Hid (Blk W1 g 55 pl.toArray) := hide (by rw [hW1]; exact hB1)
  have HO1 : Hid (Only g w W1) := hide (by rw [hW1]; exact ho1)
  have HLen := Lib.hid hlen
  have HS := Lib.hid hs
  have HCl : Hid (∀ ty, (Builtin.clear_ #[28] ty #[.slice (some ⟨g, (i + (n - (i + 1))) * 7, none⟩) (n - (i + (n - (i + 1)))) (cap - (i + (n - (i + 1))))]).run Try.prog W1 = .ok (.tuple #[]) (W1.setRow g (putL pl ((i + (n - (i + 1))) * 7) (Builtin.zeroCells (Value.agg #[.int .i64 0, .int .i64 0, .int .i64 0, .int .i64 0, .int .i64 0, .int .i64 0, .int .i64 0]).cells (n - (i + (n - (i + 1))))).toList).toArray)) := hide (fun ty => by
    have h := run_clear_blk (P := Try.prog) (w := W1) (t := 28) (ty := ty) Try.underlying28 (z := .agg #[.int .i64 0, .int .i64 0, .int .i64 0, .int .i64 0, .int .i64 0, .int .i64 0, .int .i64 0]) (s := 7) (by kernel_rfl) rfl (by intro u hu; simp [Value.cells] at hu; rcases hu with rfl | rfl <;> rfl) ((i + (n - (i + 1))) * 7) (n - (i + (n - (i + 1)))) (cap - (i + (n - (i + 1)))) HB1.out (by rw [List.size_toArray, hpl]; omega)
    simpa using h)
  have HFin : Hid (∀ w', w' = W1.setRow g (putL pl ((i + (n - (i + 1))) * 7) (Builtin.zeroCells (Value.agg #[.int .i64 0, .int .i64 0, .int .i64 0, .int .i64 0, .int .i64 0, .int .i64 0, .int .i64 0]).cells (n - (i + (n - (i + 1))))).toList).toArray → (∃ cur', Blk w' g 55 cur' ∧ cur'.size = cap * 7 ∧ cur'.toList.take ((n - 1) * 7) = cur.toList.take (i * 7) ++ news) ∧ Only g w w') := hide (fun w' hw' => by
    subst hw'
    have hzl : (Builtin.zeroCells (Value.agg #[.int .i64 0, .int .i64 0, .int .i64 0, .int .i64 0, .int .i64 0, .int .i64 0, .int .i64 0]).cells (n - (i + (n - (i + 1))))).toList.length = (n - (i + (n - (i + 1)))) * 7 := by rw [Array.length_toList, size_zeroCells]; rfl
    refine ⟨⟨_, Blk.setRow HB1.out, ?_, ?_⟩, HO1.out.trans (Only.setRow _ _ _)⟩
    · rw [List.size_toArray, putL_len (by omega), hpl]
    · rw [show (n - 1) * 7 = (i + (n - (i + 1))) * 7 by omega]
      show (putL pl ((i + (n - (i + 1))) * 7) _).take _ = _
      rw [putL_front (by omega) (Nat.le_refl _), ← hm1]
      congr 1
      omega)
  have hic : i ≤ cap := by omega
  have hjc : i + 1 ≤ cap := by omega
  have hj0 : 0 ≤ (i : Int) + 1 := by omega
  have hj1 : (i : Int) + 1 ≤ (n : Int) := by omega
  obtain ⟨i0, hi0, hz0, hz1, hz2⟩ := info_parts (show (Try.prog.info? 55).map (fun i => (i.zero, i.size, i.bytes)) = some (some (.agg #[.int .i64 0, .int .i64 0, .int .i64 0, .int .i64 0, .int .i64 0, .int .i64 0, .int .i64 0]), 7, 8 * 7) by kernel_rfl)
  generalize putL pl ((i + (n - (i + 1))) * 7) (Builtin.zeroCells (Value.agg #[.int .i64 0, .int .i64 0, .int .i64 0, .int .i64 0, .int .i64 0, .int .i64 0, .int .i64 0]).cells (n - (i + (n - (i + 1))))).toList = pz at *
  have HW1 := Lib.hid hW1
  rw [← hnews]
  clear hW1 hm1 hpl hplx hcl hB1 ho1 hW0 hlen hnews hs hB h1
  go_enter Try.func41, Try.ntmps41
  go_wp2_with fail
  go_region_law (refine step_append_room rfl (.tmp 22) (.tmp 25) 28 rfl 55 i0 7 Try.underlying28 hi0 hz1 g 0 i cap (by simp [Act.eval, Act.put]) A (n - (i + 1)) (cap - (i + 1)) news (by simp [Act.eval, Act.put]) s1.out hsrc.out s2.out (by omega) s3.out ?_; rw [HW0.out, ← HW1.out])
  all_goals
    have hclr := HCl.out
    go_wp2
    go_ret
    have hf := HFin.out _ rfl
    exact ⟨by rw [show n - 1 = i + (n - (i + 1)) by omega]; rfl, hf.1, hf.2⟩
theorem flat_take {α : Type _} (s : Nat) : ∀ (es : List (List α)) (i : Nat), (∀ r ∈ es, r.length = s) → es.flatten.take (i * s) = (es.take i).flatten
  | [], i, _ => by simp
  | e :: es, 0, _ => by simp
  | e :: es, i + 1, h => by
    have he : e.length = s := h e (by simp)
    rw [List.flatten_cons, List.take_succ_cons, List.flatten_cons, show (i + 1) * s = e.length + i * s by rw [he, Nat.succ_mul]; omega, List.take_length_add_append, flat_take s es i (fun r hr => h r (by simp [hr]))]
theorem flat_drop {α : Type _} (s : Nat) : ∀ (es : List (List α)) (i : Nat), (∀ r ∈ es, r.length = s) → es.flatten.drop (i * s) = (es.drop i).flatten
  | [], i, _ => by simp
  | e :: es, 0, _ => by simp
  | e :: es, i + 1, h => by
    have he : e.length = s := h e (by simp)
    rw [List.flatten_cons, List.drop_succ_cons, show (i + 1) * s = e.length + i * s by rw [he, Nat.succ_mul]; omega, List.drop_length_add_append, flat_drop s es i (fun r hr => h r (by simp [hr]))]
theorem flat_erase {α : Type _} (s i : Nat) (es : List (List α)) (h : ∀ r ∈ es, r.length = s) : es.flatten.take (i * s) ++ es.flatten.drop ((i + 1) * s) = (es.eraseIdx i).flatten := by
  rw [flat_take s es i h, flat_drop s es (i + 1) h, List.eraseIdx_eq_take_drop_succ, List.flatten_append]
theorem zipL_erase : ∀ (l : List Lt) (zs : List Value) (i : Nat), (List.zipWith Lt.cells l zs).eraseIdx i = List.zipWith Lt.cells (l.eraseIdx i) (zs.eraseIdx i)
  | [], zs, i => by simp
  | a :: l, [], i => by cases i <;> simp
  | a :: l, z :: zs, 0 => by simp
  | a :: l, z :: zs, i + 1 => by simp [zipL_erase l zs i]
theorem map_erase {α β : Type _} (f : α → β) : ∀ (l : List α) (i : Nat), (l.map f).eraseIdx i = (l.eraseIdx i).map f
  | [], i => by simp
  | a :: l, 0 => by simp
  | a :: l, i + 1 => by simp [map_erase f l i]
/-- the block of a row that has an element -/
theorem own_at {w : World} {base : Nat} {e : TypeId} {size n c : Nat} {A : Option Addr} {xs : List Value} (h : w.ownsRow base e size (.slice A n c) n xs) (hn : 0 < n) : ∃ g cur, A = some ⟨g, 0, none⟩ ∧ base ≤ g ∧ Blk w g e cur ∧ n ≤ c ∧ c ≤ maxLen ∧ cur.size = c * size ∧ cur.toList.take (n * size) = xs := by
  obtain ⟨_, ⟨_, h0⟩ | ⟨g, cap, cur, hv, hb, hg, h1, h2, h3, h4⟩⟩ := h
  · omega
  · injection hv with hv1 _ hv3
    subst hv3
    exact ⟨g, cur, hv1, hb, hg, h1, h2, h3, h4⟩
/-- what Delete leaves: only the row's block differs -/
def DelR (Own : World → Value → Prop) (te : TypeId) (base : Nat) (v0 : Value) (w : World) (e : Ending) (w' : World) : Prop := ∃ v g, e = .returned v ∧ Own w' v ∧ base ≤ g ∧ (v0.ownBlock = some g ∧ v.ownBlock = some g) ∧ (∃ cur, Blk w g te cur) ∧ Only g w w'
theorem dele_rd {w : World} {base n c : Nat} {A : Option Addr} {l : List Rd} (h : OwnRd w base (.slice A n c) l) (hn : l.length = n) (i : Nat) (hi : i < n) :
    Calls Try.prog 41 #[.slice A n c, .int .i64 i, .int .i64 ((i : Int) + 1)] w (DelR (fun w' v => OwnRd w' base v (l.eraseIdx i)) 55 base (.slice A n c) w) := by
  subst hn
  obtain ⟨g, cur, rfl, hb, hB, h1, h2, h3, h4⟩ := own_at h (by omega)
  have hrow : ∀ r ∈ l.map Rd.cells, r.length = 7 := fun r hr => by
    obtain ⟨x, _, rfl⟩ := List.mem_map.1 hr
    rfl
  refine (del_rd g c l.length i cur w hB h3 h1 h2 hi (fun u hu => ?_)).mono ?_
  · rw [h4] at hu
    obtain ⟨r, hr, hu⟩ := List.mem_flatten.1 hu
    obtain ⟨x, _, rfl⟩ := List.mem_map.1 hr
    simp only [Rd.cells, List.mem_cons, List.not_mem_nil, or_false] at hu
    rcases hu with rfl | rfl | rfl | rfl | rfl | rfl | rfl <;> rfl
  · rintro e w' ⟨rfl, ⟨cur', k1, k2, k3⟩, ho⟩
    have e1 := flat_erase 7 i (l.map Rd.cells) hrow
    have e3 : cur.toList.take (i * 7) = (l.map Rd.cells).flatten.take (i * 7) := by rw [← h4, List.take_take, Nat.min_eq_left (by omega)]
    rw [map_erase] at e1
    rw [h4, e3, e1] at k3
    have hlen : (l.eraseIdx i).length = l.length - 1 := List.length_eraseIdx_of_lt hi
    refine ⟨_, g, rfl, ⟨?_, .inr ⟨g, c, cur', by rw [hlen], hb, k1, by omega, h2, k2, by rw [hlen]; exact k3⟩⟩, hb, ⟨rfl, rfl⟩, ⟨cur, hB⟩, ho⟩
    have h5 : cur'.toList.length = c * 7 := by rw [Array.length_toList, k2]
    rw [← k3, List.length_take, h5, hlen]
    omega
theorem dele_lt {w : World} {base n c : Nat} {A : Option Addr} {l : List Lt} (h : OwnLs w base (.slice A n c) l) (hn : l.length = n) (i : Nat) (hi : i < n) :
    Calls Try.prog 26 #[.slice A n c, .int .i64 i, .int .i64 ((i : Int) + 1)] w (DelR (fun w' v => OwnLs w' base v (l.eraseIdx i)) 58 base (.slice A n c) w) := by
  subst hn
  obtain ⟨zs, hz, hown, hbd⟩ := h
  obtain ⟨g, cur, rfl, hb, hB, h1, h2, h3, h4⟩ := own_at hown (by omega)
  have hrow : ∀ r ∈ List.zipWith Lt.cells l zs, r.length = 3 := zipL_len l zs
  refine (del_lt g c l.length i cur w hB h3 h1 h2 hi (fun u hu => ?_)).mono ?_
  · rw [h4] at hu
    obtain ⟨r, hr, hu⟩ := List.mem_flatten.1 hu
    obtain ⟨j, hj, rfl⟩ := List.getElem_of_mem hr
    have hj' : j < l.length ∧ j < zs.length := by
      rw [List.length_zipWith] at hj
      omega
    rw [List.getElem_zipWith] at hu
    simp only [Lt.cells, List.mem_cons, List.not_mem_nil, or_false] at hu
    rcases hu with rfl | rfl | rfl
    · rfl
    · rfl
    · exact (hbd j _ _ (List.getElem?_eq_getElem hj'.1) (List.getElem?_eq_getElem hj'.2)).bytV.one
  · rintro e w' ⟨rfl, ⟨cur', k1, k2, k3⟩, ho⟩
    have e1 := flat_erase 3 i (List.zipWith Lt.cells l zs) hrow
    have e3 : cur.toList.take (i * 3) = (List.zipWith Lt.cells l zs).flatten.take (i * 3) := by rw [← h4, List.take_take, Nat.min_eq_left (by omega)]
    rw [zipL_erase] at e1
    rw [h4, e3, e1] at k3
    have hlen : (l.eraseIdx i).length = l.length - 1 := List.length_eraseIdx_of_lt hi
    refine ⟨_, g, rfl, ⟨zs.eraseIdx i, by rw [hlen, List.length_eraseIdx_of_lt (by omega), hz], ⟨?_, .inr ⟨g, c, cur', by rw [hlen], hb, k1, by omega, h2, k2, by rw [hlen]; exact k3⟩⟩, fun j b z hj hjz => ?_⟩, hb, ⟨rfl, rfl⟩, ⟨cur, hB⟩, ho⟩
    · have h5 : cur'.toList.length = c * 3 := by rw [Array.length_toList, k2]
      rw [← k3, List.length_take, h5, hlen]
      omega
    · have hk : OwnB w base z b.bd := by
        rw [List.getElem?_eraseIdx] at hj hjz
        by_cases hlt : j < i
        · rw [if_pos hlt] at hj hjz
          exact hbd j b z hj hjz
        · rw [if_neg hlt] at hj hjz
          exact hbd (j + 1) b z hj hjz
      exact ho.own hk (row_blk hk hB (by decide))
end Go.Proofs.Ytedeggjefnpjgaa
