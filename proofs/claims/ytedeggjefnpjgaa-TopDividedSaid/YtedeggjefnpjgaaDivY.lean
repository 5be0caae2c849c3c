/-
  slices.Insert of one ride, walked.
-/
import Derived.Test.YtedeggjefnpjgaaDivX
namespace Go.Proofs.Ytedeggjefnpjgaa
open Go.RowKit

set_option maxRecDepth 100000 in
set_option maxHeartbeats 8000000 in
theorem ins_end (base : Nat) (A : Option Addr) (n c gv : Nat) (l : List Rd) (r : Rd) (w : World) (h : OwnRd w base (.slice A n c) l) (hl : l.length = n) (hn : n ≤ 100000) (hbs : base ≤ w.heap.size) (hv : Blk w gv 55 (Rd.cells r).toArray) :
    Calls Try.prog 45 #[.slice A n c, .int .i64 n, .slice (some ⟨gv, 0, none⟩) 1 1] w (InsR base (.slice A n c) (l ++ [r]) w) := by
  have HO := Lib.hid (h.row hl)
  have HR : Hid (Reads w w.heap.size 7 (some ⟨gv, 0, none⟩) 1 (Rd.cells r)) := hide (by have := reads_blk (n := 1) (s := 7) hv rfl; simpa using this)
  have HOne := Lib.hid (rd_cells_one r)
  have HFin : Hid (∀ v w', w'.ownsRow base 55 7 v (n + 1) ((l.map Rd.cells).flatten ++ Rd.cells r) → Below base w w' → w.grownBy w' (Value.slice A n c).ownBlock → InsR base (.slice A n c) (l ++ [r]) w (.returned v) w') := hide fun v w' h1 h2 h3 => ⟨v, rfl, OwnRd.snoc' hl h1, h2, h3⟩
  generalize InsR base (.slice A n c) (l ++ [r]) w = RR at *
  clear hv
  obtain ⟨_, ⟨hv0, h0⟩ | ⟨g, cap, cur, hv0, hb, hg, h1, h2, h3, h4⟩⟩ := h.row hl
  · injection hv0 with e1 e2 e3
    subst e1 e2 e3
    have hz : ((0 : Nat) : Int) = 0 := rfl
    rw [hz]
    clear h hl h0
    go_enter Try.func45, Try.ntmps45
    go_wp2_with
      (at_builtin
       refine wpList_app _ ei_rd rfl (.tmp 23) (.tmp 24) rfl base (.slice none 0 0) 0 (l.map Rd.cells).flatten rfl HO.out w.heap.size (some ⟨gv, 0, none⟩) 1 1 (Rd.cells r) rfl HR.out HOne.out (by simp only [maxLen]; omega) (by omega) hbs ?_
       intro v2 w2 hown2 hgw2 hbw2 _
       have HO2 := Lib.hid hown2
       have HB2 := Lib.hid hbw2
       have HG2 := Lib.hid hgw2
       clear hown2 hbw2 hgw2)
    try go_ret
    exact HFin.out _ _ HO2.out HB2.out HG2.out
  · injection hv0 with e1 e2 e3
    subst e1 e3
    have hcm2 : c ≤ 9223372036854775807 := Nat.le_trans h2 (by simp [maxLen])
    have hb1 : (n : Int) ≤ (c : Int) := by omega
    clear h hl hg h3 h4
    go_enter Try.func45, Try.ntmps45
    go_wp2_with
      (at_builtin
       refine wpList_app _ ei_rd rfl (.tmp 23) (.tmp 24) rfl base (.slice (some ⟨g, 0, none⟩) n c) n (l.map Rd.cells).flatten rfl HO.out w.heap.size (some ⟨gv, 0, none⟩) 1 1 (Rd.cells r) rfl HR.out HOne.out (by simp only [maxLen]; omega) (by omega) hbs ?_
       intro v2 w2 hown2 hgw2 hbw2 _
       have HO2 := Lib.hid hown2
       have HB2 := Lib.hid hbw2
       have HG2 := Lib.hid hgw2
       clear hown2 hbw2 hgw2)
    try go_ret
    exact HFin.out _ _ HO2.out HB2.out HG2.out
set_option maxRecDepth 100000 in
set_option maxHeartbeats 8000000 in
theorem ins_grw (base : Nat) (A : Option Addr) (n c i gv : Nat) (l : List Rd) (r : Rd) (w : World) (h : OwnRd w base (.slice A n c) l) (hl : l.length = n) (hn : n ≤ 100000) (hi : i < n) (hroom : c < n + 1) (hbs : base ≤ w.heap.size) (hv : Blk w gv 55 (Rd.cells r).toArray) :
    Calls Try.prog 45 #[.slice A n c, .int .i64 i, .slice (some ⟨gv, 0, none⟩) 1 1] w (InsR base (.slice A n c) (l.take i ++ r :: l.drop i) w) := by
  obtain ⟨g, cur, rfl, hg, hB, hnc, hcm, hcs, htake⟩ := own_at (h.row hl) (by omega)
  have hone := rd_one l
  have hone' := rd_cells_one r
  have hRl : (Rd.cells r).length = 7 := rfl
  obtain ⟨F, hF⟩ : ∃ F, F = (l.map Rd.cells).flatten := ⟨_, rfl⟩
  rw [← hF] at htake hone
  have hclen : cur.toList.length = c * 7 := by rw [Array.length_toList, hcs]
  have hFl : F.length = n * 7 := by rw [← htake, List.length_take, hclen]; omega
  obtain ⟨i0, hi0, hz0, hzs, hzb⟩ := info_parts (show (Try.prog.info? 55).map (fun i => (i.zero, i.size, i.bytes)) = some (some (.agg #[.int .i64 0, .int .i64 0, .int .i64 0, .int .i64 0, .int .i64 0, .int .i64 0, .int .i64 0]), 7, 56) by kernel_rfl)
  have hsz : (Try.prog.info? 55).map (·.size) = some 7 := by kernel_rfl
  have hik : i + (n + 1 - i) = n + 1 := by omega
  have hold : (Builtin.firstCells i0.size i (.slice (some ⟨g, 0, none⟩) i c)).run Try.prog w.drew = .ok (F.take (i * 7)).toArray w.drew := by
    rw [hzs]
    exact run_firstCells_some w.drew 7 i ⟨g, 0, none⟩ i c (F.take (i * 7)) (by rw [List.length_take, hFl]; omega) (fun j v hj => by
      rw [Addr.add_lit, Nat.zero_add]
      have h0 : w.drew.cell? ⟨g, j, none⟩ = cur[j]? := hB.cell _
      rw [h0, ← Array.getElem?_toList]
      rw [← htake, List.take_take, List.getElem?_take] at hj
      split at hj
      · exact hj
      · cases hj)
  obtain ⟨G, hG⟩ : ∃ G, G = grownCap w (n + 1) c 55 := ⟨_, rfl⟩
  have hGn : n + 1 ≤ G := by rw [hG]; exact grownCap_ge w _ _ _
  have hGm : G ≤ maxLen := by rw [hG]; exact grownCap_le_maxLen w (n + 1) c _ (by unfold maxLen; omega)
  obtain ⟨ROW, hROW⟩ : ∃ ROW : Array Value, ROW = (F.take (i * 7)).toArray ++ Builtin.zeroCells (Value.agg #[.int .i64 0, .int .i64 0, .int .i64 0, .int .i64 0, .int .i64 0, .int .i64 0, .int .i64 0]).cells (n + 1 - i) ++ Builtin.zeroCells (Value.agg #[.int .i64 0, .int .i64 0, .int .i64 0, .int .i64 0, .int .i64 0, .int .i64 0, .int .i64 0]).cells (G - (n + 1)) := ⟨_, rfl⟩
  have hzc : (Value.agg #[.int .i64 0, .int .i64 0, .int .i64 0, .int .i64 0, .int .i64 0, .int .i64 0, .int .i64 0]).cells.size = 7 := rfl
  have hRz : ROW.size = G * 7 := by
    rw [hROW, Array.size_append, Array.size_append, size_zeroCells, size_zeroCells, hzc, List.size_toArray, List.length_take, hFl]
    omega
  have hRt : ROW.toList.take (i * 7) = F.take (i * 7) := by
    rw [hROW, Array.toList_append, Array.toList_append, List.append_assoc, List.take_append_of_le_length (by simp [hFl]; omega), List.take_take, Nat.min_self]
  have hrz : ∀ ty, (Builtin.append_ #[28, 3] ty #[.slice (some ⟨g, 0, none⟩) i c, .int .i64 ((n : Int) + 1 - (i : Int))]).run Try.prog w = .ok (.slice (some ⟨w.heap.size, 0, none⟩) (n + 1) G) (w.drew.alloc (.cells ROW 55)) := fun ty => by
    have h := Lib.run_append_grow_zeros (P := Try.prog) w 28 3 ty 55 i0 _ .i64 .i64 Try.underlying28 Try.underlying3 hi0 hz0 (some ⟨g, 0, none⟩) i c (F.take (i * 7)) hold (n + 1 - i) (by omega) (by omega) (by omega) (by omega) (by rw [hzb]; omega) (by rw [hzb, hik]; exact growslice_fits (by omega) (by omega))
    rw [hik, ← hG, ← hROW] at h
    rw [show (n : Int) + 1 - (i : Int) = ((n + 1 - i : Nat) : Int) by omega]
    exact h
  obtain ⟨W1, hW1⟩ : ∃ W1, W1 = w.drew.alloc (.cells ROW 55) := ⟨_, rfl⟩
  have HB1 : Hid (Blk W1 w.heap.size 55 ROW) := hide (by rw [hW1]; exact Blk.new w.drew _ _)
  have HL1 : Hid (Below w.heap.size w W1) := hide (by rw [hW1]; exact ((Below.refl _ _).drew).trans (below_new w.drew _))
  rw [← hW1] at hrz
  have HRz := Lib.hid hrz
  have hgs : g < w.heap.size := hB.lt
  have hvs : gv < w.heap.size := hv.lt
  have hk1 : Nat.min 1 (n + 1 - i) = 1 := by simp only [Nat.min_def]; split <;> omega
  have hk2 : Nat.min (n - i) (n + 1 - (i + 1)) = n - i := by simp only [Nat.min_def]; split <;> omega
  have hfA : i * 7 + (Rd.cells r).length ≤ ROW.size := by rw [hRl, hRz]; omega
  have HcpA : Hid (∀ ty dc, (Builtin.copy_ #[28, 28] ty #[.slice (some ⟨w.heap.size, i * 7, none⟩) (n + 1 - i) dc, .slice (some ⟨gv, 0, none⟩) 1 1]).run Try.prog W1 = .ok (goInt 1) (W1.setRow w.heap.size (putL ROW.toList (i * 7) (Rd.cells r)).toArray)) := hide fun ty dc =>
    run_copy_blk Try.underlying28 hsz hk1 rfl (fun j v hj => by
      rw [Addr.add_lit, Nat.zero_add, (hv.below HL1.out hvs).cell]
      simpa using hj) HB1.out hfA hone'
  obtain ⟨W2, hW2⟩ : ∃ W2, W2 = W1.setRow w.heap.size (putL ROW.toList (i * 7) (Rd.cells r)).toArray := ⟨_, rfl⟩
  have HB2 : Hid (Blk W2 w.heap.size 55 (putL ROW.toList (i * 7) (Rd.cells r)).toArray) := hide (by rw [hW2]; exact Blk.setRow HB1.out)
  have HL2 : Hid (Below w.heap.size w W2) := hide (by rw [hW2]; exact (Only.setRow _ _ _).below HL1.out (Nat.le_refl _))
  rw [← hW2] at HcpA
  have hl1 : (putL ROW.toList (i * 7) (Rd.cells r)).length = G * 7 := by rw [putL_len (by rw [Array.length_toList]; exact hfA), Array.length_toList, hRz]
  have hmove : (F.drop (i * 7)).length = (n - i) * 7 := by rw [List.length_drop, hFl]; omega
  have hfB : (i + 1) * 7 + (F.drop (i * 7)).length ≤ (putL ROW.toList (i * 7) (Rd.cells r)).toArray.size := by rw [List.size_toArray, hl1, hmove]; omega
  have HcpB : Hid (∀ ty dc sc, (Builtin.copy_ #[28, 28] ty #[.slice (some ⟨w.heap.size, (i + 1) * 7, none⟩) (n + 1 - (i + 1)) dc, .slice (some ⟨g, i * 7, none⟩) (n - i) sc]).run Try.prog W2.drew = .ok (goInt ((n - i : Nat) : Int)) (W2.drew.setRow w.heap.size (putL (putL ROW.toList (i * 7) (Rd.cells r)) ((i + 1) * 7) (F.drop (i * 7))).toArray)) := hide fun ty dc sc =>
    run_copy_blk (cur := (putL ROW.toList (i * 7) (Rd.cells r)).toArray) Try.underlying28 hsz hk2 hmove (fun j v hj => by
      rw [Addr.add_lit]
      have h0 : W2.drew.cell? ⟨g, i * 7 + j, none⟩ = cur[i * 7 + j]? := (hB.below HL2.out hgs).cell _
      rw [h0, ← Array.getElem?_toList]
      rw [List.getElem?_drop, ← htake, List.getElem?_take] at hj
      split at hj
      · exact hj
      · cases hj) HB2.out.drew hfB (fun v hv => hone v (List.mem_of_mem_drop hv))
  have HFin : Hid (∀ w', w' = W2.drew.setRow w.heap.size (putL (putL ROW.toList (i * 7) (Rd.cells r)) ((i + 1) * 7) (F.drop (i * 7))).toArray → InsR base (.slice (some ⟨g, 0, none⟩) n c) (l.take i ++ r :: l.drop i) w (.returned (.slice (some ⟨w.heap.size, 0, none⟩) (n + 1) G)) w') := hide fun w' hw' => by
    subst hw'
    have hlen : (l.take i ++ r :: l.drop i).length = n + 1 := by simp only [List.length_append, List.length_take, List.length_cons, List.length_drop]; omega
    have hbl : Below w.heap.size w (W2.drew.setRow w.heap.size (putL (putL ROW.toList (i * 7) (Rd.cells r)) ((i + 1) * 7) (F.drop (i * 7))).toArray) := (Only.setRow _ _ _).below HL2.out.drew (Nat.le_refl _)
    refine ⟨_, rfl, ⟨?_, .inr ⟨w.heap.size, G, _, by rw [hlen], hbs, Blk.setRow HB2.out.drew, by omega, hGm, ?_, ?_⟩⟩, hbl.mono hbs, below_grown' hbl _⟩
    · rw [ins_flat, ← hF, hlen, List.length_append, List.length_append, List.length_take, List.length_drop, hFl, hRl]
      omega
    · rw [List.size_toArray, putL_len (by rw [hl1, hmove]; omega), hl1]
    · rw [hlen, ins_flat, ← hF]
      have := ins_grow (row := ROW.toList) (F := F) (R := Rd.cells r) (q := i * 7) (m := n * 7) (s := 7) hRt hFl hRl (by omega) (by rw [Array.length_toList, hRz]; omega)
      rw [show (i + 1) * 7 = i * 7 + 7 by omega, show (n + 1) * 7 = n * 7 + 7 by omega]
      exact this
  generalize InsR base (.slice (some ⟨g, 0, none⟩) n c) (l.take i ++ r :: l.drop i) w = RR at *
  generalize (putL (putL ROW.toList (i * 7) (Rd.cells r)) ((i + 1) * 7) (F.drop (i * 7))).toArray = pz at *
  have hz2 : ((i : Int) == (n : Int)) = false := by simp; omega
  have hz3 : (n : Int) + 1 > (c : Int) := by omega
  have hw1 : IntKind.i64.wrap ((i : Int) + 1) = (i : Int) + 1 := by rw [IntKind.wrap_i64]; omega
  have hw2 : IntKind.i64.wrap ((n : Int) + 1) = (n : Int) + 1 := by rw [IntKind.wrap_i64]; omega
  have hw3 : IntKind.i64.wrap ((n : Int) + 1 - (i : Int)) = (n : Int) + 1 - (i : Int) := by rw [IntKind.wrap_i64]; omega
  have hb0 : (0 : Int) ≤ (i : Int) + 1 := by omega
  have hb1 : (i : Int) ≤ (n : Int) := by omega
  have hb2 : (i : Int) + 1 ≤ (n : Int) + 1 := by omega
  have hb4 : (i : Int) ≤ (n : Int) + 1 := by omega
  have hb6 : (i : Int) ≤ (c : Int) := by omega
  have hc1 : ¬ (c = i) := by omega
  have hc2 : ¬ (G = i) := by omega
  have hc3 : ¬ (G = i + 1) := by omega
  have HW := Lib.hid (And.intro hW1 hW2)
  clear hW1 hW2 hmove htake hone hone' hB hv h hcs hclen hFl hF hl1 hsz hk1 hk2 hfA hfB hrz hold hROW hRz hRt hG hz0 hzs hzb hi0
  go_enter Try.func45, Try.ntmps45
  go_wp2_with
    (first
     | (at_builtin; refine Lib.wpList_append_run _ rfl _ _ _ _ rfl _ _ rfl rfl _ _ (HRz.out _) ?_)
     | (refine wpList_copyR rfl (.tmp 43) (.tmp 44) 28 28 rfl _ _ rfl rfl (HcpA.out _ _) ?_))
  go_region_law (refine step_copyR rfl (.tmp 50) (.tmp 53) 28 28 rfl (.slice (some ⟨w.heap.size, (i + 1) * 7, none⟩) (n + 1 - (i + 1)) (G - (i + 1))) (.slice (some ⟨g, i * 7, none⟩) (n - i) (c - i)) (by simp [Act.eval, Act.put]) (by simp [Act.eval, Act.put]) (HcpB.out _ _ _) ?_)
  all_goals
    go_wp2_with fail
    try go_ret
    exact HFin.out _ rfl
theorem insert_any (base : Nat) (A : Option Addr) (n c i gv : Nat) (l : List Rd) (r : Rd) (w : World) (h : OwnRd w base (.slice A n c) l) (hl : l.length = n) (hn : n ≤ 100000) (hi : i ≤ n) (hbs : base ≤ w.heap.size) (hv : Blk w gv 55 (Rd.cells r).toArray) (hgv : ∀ g, (Value.slice A n c).ownBlock = some g → g ≠ gv) :
    Calls Try.prog 45 #[.slice A n c, .int .i64 i, .slice (some ⟨gv, 0, none⟩) 1 1] w (InsR base (.slice A n c) (l.take i ++ r :: l.drop i) w) := by
  by_cases he : i = n
  · subst he
    have e : l.take i ++ r :: l.drop i = l ++ [r] := by rw [List.take_of_length_le (by omega), List.drop_of_length_le (by omega)]
    rw [e]
    exact ins_end base A i c gv l r w h hl hn hbs hv
  · by_cases hr : n + 1 ≤ c
    · exact ins_shift base A n c i gv l r w h hl hn (by omega) hr hv hgv
    · exact ins_grw base A n c i gv l r w h hl hn (by omega) (by omega) hbs hv
end Go.Proofs.Ytedeggjefnpjgaa
