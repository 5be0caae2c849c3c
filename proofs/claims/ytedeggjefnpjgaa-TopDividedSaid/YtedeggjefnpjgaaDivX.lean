/-
  slices.Insert of one ride, walked: where there is room.
-/
import Derived.Test.YtedeggjefnpjgaaDivW
import Derived.Lib.Overlaps
import Derived.Lib.AppendZerosOnto
import Derived.Laws.Externs
namespace Go.Proofs.Ytedeggjefnpjgaa
open Go.RowKit

section
variable {P : Program} {w : World}
theorem run_copy_blk {dT sT ty elem te : TypeId} {g o dl dc sl sc k sz : Nat} {a : Addr} {cs : List Value} {cur : Array Value} (hu : P.underlying dT = some (.slice elem)) (hs : (P.info? elem).map (·.size) = some sz) (hk : Nat.min sl dl = k) (hn : cs.length = k * sz)
    (hsrc : ∀ j v, cs[j]? = some v → w.cell? (a.add j) = some v) (hB : Blk w g te cur) (hfit : o + cs.length ≤ cur.size) (h1 : ∀ v ∈ cs, v.oneCell' = true) :
    (Builtin.copy_ #[dT, sT] ty #[.slice (some ⟨g, o, none⟩) dl dc, .slice (some a) sl sc]).run P w = .ok (goInt k) (w.setRow g (putL cur.toList o cs).toArray) := by
  have hl := run_loadCells_list (P := P) w a cs hsrc
  have hst := run_storeCells_at P g o te cs 0 cur w hB (by omega) h1
  rw [Nat.add_zero] at hst
  rw [hn] at hl
  cases hq : P.info? elem with
  | none => simp [hq] at hs
  | some i =>
    have hi : i.size = sz := by simpa [hq] using hs
    subst hk
    simp [Builtin.copy_, run_underlying hu, Builtin.lenOf, Builtin.firstCells, sizeOf, typeInfo, hq, hi, hl, hst, putL]
theorem wpList_copyR {ops : Array Oper} {rest : List Oper} {o : Oper} {a : Act} {Q : Exit → Act → World → Prop} (hgd : o.guard = none) (d s : Operand) (t t' : TypeId) (ho : o.op = .call { callee := .builtin .copy, args := #[d, s], argTypes := #[t, t'] }) (v u : Value) (hd : a.eval d = v) (hs : a.eval s = u) {v' : Value} {w' : World}
    (hr : (Builtin.copy_ #[t, t'] o.type #[v, u]).run P w = .ok v' w') (h : wpList P ops Q rest (a.put o.dst v') w') : wpList P ops Q (o :: rest) a w := by
  refine wpList_plain hgd fun K hK => ?_
  unfold Oper.wp
  simp only [execOp, ho, resolve, invoke, builtin, Sem.run_bind, Sem.run_pure, Result.andThen_ok, List.map_toArray, List.map_cons, List.map_nil, hd, hs, hr]
  exact hK _ _ h
theorem step_copyR {ops : Array Oper} {o : Oper} {a : Act} {K : Act → World → Prop} {Q : Exit → Act → World → Prop} {E : Prop} (hg : o.guard = none) (d x : Operand) (t t' : TypeId) (hop : o.op = Op.call { callee := Callee.builtin Builtin.copy, args := #[d, x], argTypes := #[t, t'] })
    (v u : Value) (hd : a.eval d = v) (hx : a.eval x = u) {v' : Value} {w' : World} (hr : (Builtin.copy_ #[t, t'] o.type #[v, u]).run P w = .ok v' w') (hK : K (a.put o.dst v') w') : if Region.wanted o (yielded ops a.tmps) = true then Oper.wp P o a w K Q else E := by
  rw [if_pos (by simp [Region.wanted, hg])]
  unfold Oper.wp
  simp [execOp, hop, resolve, invoke, builtin, hd, hx, hr, Result.andThen]
  exact hK
end
theorem ins_room {cur F R : List Value} {q m s : Nat} (hF : cur.take m = F) (hR : R.length = s) (hq : q ≤ m) (hm : m + s ≤ cur.length) : (putL (putL cur (q + s) (F.drop q)) q R).take (m + s) = F.take q ++ R ++ F.drop q := by
  have hFl : F.length = m := by rw [← hF, List.length_take]; omega
  have h0 : putL cur (q + s) (F.drop q) = cur.take (q + s) ++ F.drop q ++ cur.drop (m + s) := by
    unfold putL
    rw [List.length_drop, hFl, show q + s + (m - q) = m + s by omega]
  have h1 : (putL cur (q + s) (F.drop q)).take q = F.take q := by
    rw [putL_front (by omega) (by omega), ← hF, List.take_take, Nat.min_eq_left hq]
  have h2 : (putL cur (q + s) (F.drop q)).drop (q + s) = F.drop q ++ cur.drop (m + s) := by
    rw [h0, List.append_assoc, List.drop_append_of_le_length (by simp; omega), List.drop_of_length_le (by rw [List.length_take]; exact Nat.min_le_left _ _), List.nil_append]
  have h3 : putL (putL cur (q + s) (F.drop q)) q R = F.take q ++ R ++ (F.drop q ++ cur.drop (m + s)) := by
    rw [show putL (putL cur (q + s) (F.drop q)) q R = (putL cur (q + s) (F.drop q)).take q ++ R ++ (putL cur (q + s) (F.drop q)).drop (q + R.length) from rfl, h1, hR, h2]
  rw [h3, ← List.append_assoc, List.take_append_of_le_length (by simp [hFl, hR]; omega), List.take_of_length_le (by simp [hFl, hR]; omega)]
theorem ins_grow {row F R : List Value} {q m s : Nat} (hF : row.take q = F.take q) (hFl : F.length = m) (hR : R.length = s) (hq : q ≤ m) (hm : m + s ≤ row.length) : (putL (putL row q R) (q + s) (F.drop q)).take (m + s) = F.take q ++ R ++ F.drop q := by
  have hl : (putL row q R).length = row.length := putL_len (by omega)
  rw [putL_mid (by omega) (by rw [List.length_drop, hFl]; omega), putL_mid (by omega) (by rw [hR]), hF]
/-- what Insert leaves -/
def InsR (base : Nat) (v0 : Value) (l : List Rd) (w : World) (e : Ending) (w' : World) : Prop := ∃ v, e = .returned v ∧ OwnRd w' base v l ∧ Below base w w' ∧ w.grownBy w' v0.ownBlock
theorem only_grown {g : Nat} {w w' : World} (h : Only g w w') : w.grownBy w' (some g) := ⟨h.os, h.tape, h.output, Nat.le_of_eq h.size.symm, fun k _ hk => h.block k fun e => hk (by rw [e])⟩
theorem below_grown' {w w' : World} (h : Below w.heap.size w w') (row : Option Nat) : w.grownBy w' row := ⟨h.os, h.tape, h.output, h.size, fun k hk _ => h.block k hk⟩
theorem ins_flat (l : List Rd) (r : Rd) (i : Nat) : ((l.take i ++ r :: l.drop i).map Rd.cells).flatten = (l.map Rd.cells).flatten.take (i * 7) ++ Rd.cells r ++ (l.map Rd.cells).flatten.drop (i * 7) := by
  have hrow : ∀ r ∈ l.map Rd.cells, r.length = 7 := fun r hr => by
    obtain ⟨x, _, rfl⟩ := List.mem_map.1 hr
    rfl
  rw [flat_take 7 _ _ hrow, flat_drop 7 _ _ hrow]
  simp [List.map_take, List.map_drop]
theorem shape_blk {w : World} {g : Nat} {t : TypeId} {cs : Array Value} (h : Blk w g t cs) : w.shape? g = some (t, cs.size) := by
  have h' : w.heap[g]? = some (.cells cs t (0, 0)) := h
  simp [World.shape?, h']
set_option maxRecDepth 100000 in
set_option maxHeartbeats 8000000 in
theorem ins_shift (base : Nat) (A : Option Addr) (n c i gv : Nat) (l : List Rd) (r : Rd) (w : World) (h : OwnRd w base (.slice A n c) l) (hl : l.length = n) (hn : n ≤ 100000) (hi : i < n) (hroom : n + 1 ≤ c) (hv : Blk w gv 55 (Rd.cells r).toArray) (hgv : ∀ g, (Value.slice A n c).ownBlock = some g → g ≠ gv) :
    Calls Try.prog 45 #[.slice A n c, .int .i64 i, .slice (some ⟨gv, 0, none⟩) 1 1] w (InsR base (.slice A n c) (l.take i ++ r :: l.drop i) w) := by
  obtain ⟨g, cur, rfl, hg, hB, hnc, hcm, hcs, htake⟩ := own_at (h.row hl) (by omega)
  have hne : g ≠ gv := hgv g rfl
  have hcm2 : c ≤ 9223372036854775807 := Nat.le_trans hcm (by simp [maxLen])
  have hone := rd_one l
  have hone' := rd_cells_one r
  have hRl : (Rd.cells r).length = 7 := rfl
  obtain ⟨F, hF⟩ : ∃ F, F = (l.map Rd.cells).flatten := ⟨_, rfl⟩
  rw [← hF] at htake hone
  have hclen : cur.toList.length = c * 7 := by rw [Array.length_toList, hcs]
  have hFl : F.length = n * 7 := by rw [← htake, List.length_take, hclen]; omega
  have hov : ∀ lb cb, (callFunc 53 #[.slice (some ⟨gv, 0, none⟩) 1 1, .slice (some ⟨g, (i + 1) * 7, none⟩) lb cb]).run Try.prog w = .ok (.value (.bool false)) w := fun lb cb => by
    rw [run_callFunc_extern Try.func53 (by kernel_rfl) (by kernel_rfl) (by kernel_rfl) (e := Extern.SlicesOverlaps.overlaps #[28, 28] #[4]) (by kernel_rfl)]
    rw [Lib.run_overlaps_apart w 28 4 55 Try.underlying28 7 Try.sizeOf55 ⟨gv, 0, none⟩ ⟨g, (i + 1) * 7, none⟩ 1 1 lb cb (Ne.symm hne) _ _ _ _ (shape_blk hv) (shape_blk hB) (by omega) (hv.frozen 0) (hv.frozen _)]
    rfl
  have hsz : (Try.prog.info? 55).map (·.size) = some 7 := by kernel_rfl
  have hmove : (F.drop (i * 7)).length = (n - i) * 7 := by rw [List.length_drop, hFl]; omega
  have hcA : ∀ j v, (F.drop (i * 7))[j]? = some v → w.drew.cell? ((⟨g, i * 7, none⟩ : Addr).add j) = some v := fun j v hj => by
    rw [Addr.add_lit]
    have h0 : w.drew.cell? ⟨g, i * 7 + j, none⟩ = cur[i * 7 + j]? := hB.cell _
    rw [h0, ← Array.getElem?_toList]
    rw [List.getElem?_drop, ← htake, List.getElem?_take] at hj
    split at hj
    · exact hj
    · cases hj
  have hk1 : Nat.min (n + 1 - i) (n + 1 - (i + 1)) = n - i := by simp only [Nat.min_def]; split <;> omega
  have hk2 : Nat.min 1 (n + 1 - i) = 1 := by simp only [Nat.min_def]; split <;> omega
  have hfA : (i + 1) * 7 + (F.drop (i * 7)).length ≤ cur.size := by rw [hmove, hcs]; omega
  have HcpA : Hid (∀ ty dc sc, (Builtin.copy_ #[28, 28] ty #[.slice (some ⟨g, (i + 1) * 7, none⟩) (n + 1 - (i + 1)) dc, .slice (some ⟨g, i * 7, none⟩) (n + 1 - i) sc]).run Try.prog w.drew = .ok (goInt ((n - i : Nat) : Int)) (w.drew.setRow g (putL cur.toList ((i + 1) * 7) (F.drop (i * 7))).toArray)) := hide fun ty dc sc =>
    run_copy_blk Try.underlying28 hsz hk1 hmove hcA hB.drew hfA (fun v hv => hone v (List.mem_of_mem_drop hv))
  obtain ⟨W1, hW1⟩ : ∃ W1, W1 = w.drew.setRow g (putL cur.toList ((i + 1) * 7) (F.drop (i * 7))).toArray := ⟨_, rfl⟩
  have HW1 := Lib.hid hW1
  have HB1 : Hid (Blk W1 g 55 (putL cur.toList ((i + 1) * 7) (F.drop (i * 7))).toArray) := hide (by rw [hW1]; exact Blk.setRow hB.drew)
  have HO1 : Hid (Only g w W1) := hide (by rw [hW1]; exact Only.trans (Only.drew (w := w)) (Only.setRow _ _ _))
  rw [← hW1] at HcpA
  have hl1 : (putL cur.toList ((i + 1) * 7) (F.drop (i * 7))).length = c * 7 := by rw [putL_len (by rw [hmove, hclen]; omega), hclen]
  have hfB : i * 7 + (Rd.cells r).length ≤ (putL cur.toList ((i + 1) * 7) (F.drop (i * 7))).toArray.size := by rw [List.size_toArray, hl1, hRl]; omega
  have HcpB : Hid (∀ ty dc, (Builtin.copy_ #[28, 28] ty #[.slice (some ⟨g, i * 7, none⟩) (n + 1 - i) dc, .slice (some ⟨gv, 0, none⟩) 1 1]).run Try.prog W1 = .ok (goInt 1) (W1.setRow g (putL (putL cur.toList ((i + 1) * 7) (F.drop (i * 7))) (i * 7) (Rd.cells r)).toArray)) := hide fun ty dc =>
    run_copy_blk (cur := (putL cur.toList ((i + 1) * 7) (F.drop (i * 7))).toArray) Try.underlying28 hsz hk2 rfl (fun j v hj => by
      rw [Addr.add_lit, Nat.zero_add, (HO1.out.blk hv (Ne.symm hne)).cell]
      simpa using hj) HB1.out hfB hone'
  have HFin : Hid (∀ w', w' = W1.setRow g (putL (putL cur.toList ((i + 1) * 7) (F.drop (i * 7))) (i * 7) (Rd.cells r)).toArray → InsR base (.slice (some ⟨g, 0, none⟩) n c) (l.take i ++ r :: l.drop i) w (.returned (.slice (some ⟨g, 0, none⟩) (n + 1) c)) w') := hide fun w' hw' => by
    subst hw'
    have hlen : (l.take i ++ r :: l.drop i).length = n + 1 := by simp only [List.length_append, List.length_take, List.length_cons, List.length_drop]; omega
    refine ⟨_, rfl, ⟨?_, .inr ⟨g, c, _, by rw [hlen], hg, Blk.setRow HB1.out, by omega, hcm, ?_, ?_⟩⟩, (HO1.out.trans (Only.setRow _ _ _)).below (Below.refl _ _) hg, only_grown (HO1.out.trans (Only.setRow _ _ _))⟩
    · rw [ins_flat, ← hF, hlen, List.length_append, List.length_append, List.length_take, List.length_drop, hFl, hRl]
      omega
    · rw [List.size_toArray, putL_len (by rw [hl1, hRl]; omega), hl1]
    · rw [hlen, ins_flat, ← hF]
      have := ins_room (cur := cur.toList) (F := F) (R := Rd.cells r) (q := i * 7) (m := n * 7) (s := 7) htake hRl (by omega) (by rw [hclen]; omega)
      rw [show (i + 1) * 7 = i * 7 + 7 by omega, show (n + 1) * 7 = n * 7 + 7 by omega]
      exact this
  generalize InsR base (.slice (some ⟨g, 0, none⟩) n c) (l.take i ++ r :: l.drop i) w = RR at *
  generalize (putL (putL cur.toList ((i + 1) * 7) (F.drop (i * 7))) (i * 7) (Rd.cells r)).toArray = pz at *
  have hz2 : ((i : Int) == (n : Int)) = false := by simp; omega
  have hz3 : ¬ ((n : Int) + 1 > (c : Int)) := by omega
  have hw1 : IntKind.i64.wrap ((i : Int) + 1) = (i : Int) + 1 := by rw [IntKind.wrap_i64]; omega
  have hw2 : IntKind.i64.wrap ((n : Int) + 1) = (n : Int) + 1 := by rw [IntKind.wrap_i64]; omega
  have hb0 : (0 : Int) ≤ (i : Int) + 1 := by omega
  have hb1 : (i : Int) ≤ (n : Int) := by omega
  have hb2 : (i : Int) + 1 ≤ (n : Int) + 1 := by omega
  have hb3 : (n : Int) + 1 ≤ (c : Int) := by omega
  have hb4 : (i : Int) ≤ (n : Int) + 1 := by omega
  have hb5 : (0 : Int) ≤ (n : Int) + 1 := by omega
  have hc1 : ¬ (c = i) := by omega
  have hc2 : ¬ (c = i + 1) := by omega
  clear hW1 hcA hmove htake hone hone' hB hv h hgv hcs hclen hFl hF hl1 hsz hk1 hk2 hfA hfB
  go_enter Try.func45, Try.ntmps45
  go_wp2_with (simp only [hov])
  go_region_law (refine step_copyR rfl (.tmp 73) (.tmp 76) 28 28 rfl (.slice (some ⟨g, (i + 1) * 7, none⟩) (n + 1 - (i + 1)) (c - (i + 1))) (.slice (some ⟨g, i * 7, none⟩) (n + 1 - i) (c - i)) (by simp [Act.eval, Act.put]) (by simp [Act.eval, Act.put]) (HcpA.out _ _ _) ?_)
  all_goals
    go_wp2_with (refine wpList_copyR rfl (.tmp 80) (.tmp 81) 28 28 rfl _ _ rfl rfl (HcpB.out _ _) ?_)
    try go_ret
    exact HFin.out _ rfl
end Go.Proofs.Ytedeggjefnpjgaa
