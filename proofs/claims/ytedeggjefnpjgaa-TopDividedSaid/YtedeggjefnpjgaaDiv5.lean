/-
  Rides told by their numbers; made and same of the law; a part of a block is stored.
-/
import Derived.Test.YtedeggjefnpjgaaDivW
namespace Go.Proofs.Ytedeggjefnpjgaa
open Go.RowKit

/-- the ride k of the gate -/
def rdN (k : Nat) : Rd := ⟨4, k, (((1 + k % 3 : Nat)) : Int), k, 1, 4, ((10 * k : Nat) : Int)⟩
theorem rdN_seq (k : Nat) : (rdN k).seq = (k : Int) := rfl
theorem rdN_gate (k : Nat) : (rdN k).gate = 4 := rfl
theorem rdN_ok {k : Nat} (h : k ≤ 20) : okB (rdN k) = true := by
  rw [okB_iff]
  intro x hx
  simp only [Rd.fs, rdN, List.mem_cons, List.not_mem_nil, or_false] at hx
  rcases hx with rfl | rfl | rfl | rfl | rfl | rfl | rfl <;> omega
/-- the rides s, s + 1 .. (c of them) -/
def rdsN (s c : Nat) : List Rd := (List.range' s c).map rdN
theorem rdsN_len (s c : Nat) : (rdsN s c).length = c := by simp [rdsN]
theorem rdsN_at {s c i : Nat} (h : i < c) : (rdsN s c).getD i rd0 = rdN (s + i) := by
  simp [rdsN, h]
theorem rdsN_snoc (s c : Nat) : rdsN s c ++ [rdN (s + c)] = rdsN s (c + 1) := by
  unfold rdsN
  rw [List.range'_concat, List.map_append]
  simp
theorem rdsN_zero (s : Nat) : rdsN s 0 = [] := rfl
theorem rdsN_take {s c k : Nat} (h : k ≤ c) : (rdsN s c).take k = rdsN s k := by
  apply List.ext_getElem
  · simp [rdsN]; omega
  · intro i h1 h2
    simp [rdsN]
/-- rides are returned -/
def RdsR (l : List Rd) (w : World) (e : Ending) (w' : World) : Prop := ∃ v, e = .returned v ∧ OwnRd w' 0 v l ∧ Below w.heap.size w w'
set_option maxRecDepth 100000 in
set_option maxHeartbeats 4000000 in
theorem made_any (n : Nat) (w : World) (hn : n ≤ 20) : Calls Try.prog 6 #[.int .i64 4, .int .i64 n] w (RdsR (rdsN 1 n) w) := by
  have HFin : Hid (∀ v w', OwnRd w' 0 v (rdsN 1 n) → Below w.heap.size w w' → RdsR (rdsN 1 n) w (.returned v) w') := fun v w' h1 h2 => ⟨v, rfl, h1, h2⟩
  generalize RdsR (rdsN 1 n) w = RR at *
  go_enter Try.func6, Try.ntmps6
  go_wp2_with fail
  go_loopw [5, 6] (fun v i wr => ∃ j : Nat, 1 ≤ j ∧ j ≤ n + 1 ∧ i = .int .i64 j ∧ OwnRd wr w.heap.size v (rdsN 1 (j - 1)) ∧ Below w.heap.size w wr) (fun _ i _ => n + 1 - (intOf i).toNat)
  case atStart => exact ⟨1, by omega, by omega, rfl, World.ownsRow_lit w #[] 0 (Nat.le_refl _) (by simp [maxLen]) (by simp), below_new w _⟩
  case round =>
    obtain ⟨j, hj, hj2, rfl, hO, hbr⟩ := hrel
    obtain ⟨wo, rfl⟩ : ∃ wo : World, wo = wr := ⟨_, rfl⟩
    have HB := Lib.hid hbr
    have HO := Lib.hid hO
    obtain ⟨A, m, c, rfl, HLm, _, _, _⟩ := (OwnRd.strV hO).nam
    have hm : m = j - 1 := by rw [← HLm.out, rdsN_len]
    have hsz : w.heap.size ≤ wo.heap.size := hbr.size
    clear hO hbr
    by_cases hlt : j ≤ n
    · have HS := Lib.hid (rdsN_snoc 1 (j - 1))
      rw [show 1 + (j - 1) = j by omega, show j - 1 + 1 = j by omega] at HS
      have HOne := Lib.hid (rd_cells_one (rdN j))
      unfold rdN at HS HOne
      obtain ⟨q, hq⟩ : ∃ q, j % 3 = q := ⟨_, rfl⟩
      have hq3 : q < 3 := by omega
      rw [hq] at HS HOne
      have h3 : Int.tmod (j : Int) 3 = (q : Int) := by rw [← hq]; rfl
      have hw1 : IntKind.i64.wrap (1 + (q : Int)) = ((1 + q : Nat) : Int) := by rw [IntKind.wrap_i64]; omega
      have hw2 : IntKind.i64.wrap (10 * (j : Int)) = ((10 * j : Nat) : Int) := by rw [IntKind.wrap_i64]; omega
      have hw3 : IntKind.i64.wrap (q : Int) = (q : Int) := by rw [IntKind.wrap_i64]; omega
      have hlt' : (j : Int) ≤ (n : Int) := by omega
      clear hq
      go_wp2_with
        (at_builtin
         refine wpList_app_lit ei_rd rfl (.tmp 13) (.tmp 24) rfl w.heap.size (.slice A m c) m _ rfl (HO.out.row HLm.out) 1 rfl rfl HOne.out (by simp only [maxLen]; omega) (by omega) hsz ?_
         intro v2 w2 hown hb2 hg2 hat2
         have HO2 : Hid (OwnRd w2 w.heap.size v2 (rdsN 1 j)) := hide (by rw [← HS.out]; exact OwnRd.snoc' HLm.out hown)
         have HB2 : Hid (Below w.heap.size w w2) := hide (HB.out.trans hb2)
         clear hown hb2 hg2 hat2)
      go_roundw
      case rel => exact ⟨j + 1, by omega, by omega, by go_num, by rw [show j + 1 - 1 = j by omega]; exact HO2.out, HB2.out⟩
      case measure => simp [intOf]; omega
    · obtain rfl : j = n + 1 := by omega
      obtain rfl : m = n := by omega
      clear hm
      have hnl : ¬ (((m + 1 : Nat) : Int) ≤ (m : Int)) := by omega
      have HV : Hid (OwnRd wo 0 (.slice A m c) (rdsN 1 m)) := hide (OwnRd.to0 HO.out)
      go_wp2_with fail
      try go_ret
      exact HFin.out _ _ HV.out HB.out
set_option maxRecDepth 100000 in
set_option maxHeartbeats 4000000 in
theorem same_any (A : Option Addr) (n c : Nat) (A' : Option Addr) (c' : Nat) (l : List Rd) (w : World) (hr : Strs Rd.cells 7 w w.heap.size A n l) (hl : l.length = n) (hr' : Strs Rd.cells 7 w w.heap.size A' n l) (hn : n ≤ 1000000) :
    Calls Try.prog 13 #[.slice A n c, .slice A' n c'] w (BoR true w) := by
  have HR := Lib.hid hr
  have HR' := Lib.hid hr'
  have HL := Lib.hid hl
  have HFin : Hid (∀ w', Below w.heap.size w w' → BoR true w (.returned (.bool true)) w') := fun w' h => ⟨rfl, h⟩
  generalize BoR true w = RR at *
  clear hr hl hr'
  go_enter Try.func13, Try.ntmps13
  go_wp2_with fail
  go_loopw [5] (fun i wr => ∃ k : Nat, k ≤ n ∧ i = .int .i64 k ∧ Below w.heap.size w wr) (fun i _ => n - (intOf i).toNat)
  case atStart => exact ⟨0, by omega, rfl, Below.refl _ _⟩
  case round =>
    obtain ⟨k, hk, rfl, hbr⟩ := hrel
    obtain ⟨wo, rfl⟩ : ∃ wo : World, wo = wr := ⟨_, rfl⟩
    have HB := Lib.hid hbr
    clear hbr
    by_cases hlt : k < n
    · obtain ⟨ad, rfl, hadb, hcl⟩ := strs_at (HR.out.below HB.out) (fun _ => rfl) HL.out hlt rd0
      obtain ⟨ad', rfl, hadb', hcl'⟩ := strs_at (HR'.out.below HB.out) (fun _ => rfl) HL.out hlt rd0
      generalize l.getD k rd0 = r at *
      obtain ⟨gate, seq, ser, cnt, prod, lift, att⟩ := r
      have hS : (∀ i u, ([.int .i64 gate, .int .i64 seq, .int .i64 ser, .int .i64 cnt, .int .i64 prod, .int .i64 lift, .int .i64 att] : List Value)[i]? = some u → wo.drew.cell? ((ad.add (k * 7)).add i) = some u) ∧ (∀ i u, ([.int .i64 gate, .int .i64 seq, .int .i64 ser, .int .i64 cnt, .int .i64 prod, .int .i64 lift, .int .i64 att] : List Value)[i]? = some u → wo.drew.cell? ((ad'.add (k * 7)).add i) = some u) := ⟨hcl, hcl'⟩
      clear hcl hcl' hadb hadb'
      go_upto_region 6 with (fail)
      refine wp_region_held_drew (S := fun W => (∀ i u, ([.int .i64 gate, .int .i64 seq, .int .i64 ser, .int .i64 cnt, .int .i64 prod, .int .i64 lift, .int .i64 att] : List Value)[i]? = some u → W.cell? ((ad.add (k * 7)).add i) = some u) ∧ (∀ i u, ([.int .i64 gate, .int .i64 seq, .int .i64 ser, .int .i64 cnt, .int .i64 prod, .int .i64 lift, .int .i64 att] : List Value)[i]? = some u → W.cell? ((ad'.add (k * 7)).add i) = some u)) (by kernel_rfl) (hS) (fun hHeld => ?_)
      refine held_run 0 (some 17) (.move (.tmp 0)) ?v6_1_2 (by rfl) (by kernel_rfl) (by kernel_rfl) (by kernel_rfl) (fun _ _ _ h => h) (fun o ho w hS => ?y6_1_2) (by assumption) ?r6_1_2
      case y6_1_2 => (try dsimp only at hS); unfold execOp; simp only [ho]; go_simp; try with_reducible rfl
      try simp only [Act.put, List.setIfInBounds_toArray, List.set_cons_zero, List.set_cons_succ]
      refine held_run 1 (some 18) (.move (.tmp 5)) ?v6_1_3 (by rfl) (by kernel_rfl) (by kernel_rfl) (by kernel_rfl) (fun _ _ _ h => h) (fun o ho w hS => ?y6_1_3) (by assumption) ?r6_1_3
      case y6_1_3 => (try dsimp only at hS); unfold execOp; simp only [ho]; go_simp; try with_reducible rfl
      try simp only [Act.put, List.setIfInBounds_toArray, List.set_cons_zero, List.set_cons_succ]
      refine held_run 2 (some 19) (.indexAddr 28 (.tmp 17) (.tmp 18)) ?v6_1_4 (by rfl) (by kernel_rfl) (by kernel_rfl) (by kernel_rfl) (fun _ _ _ h => h) (fun o ho w hS => ?y6_1_4) (by assumption) ?r6_1_4
      case y6_1_4 => (try dsimp only at hS); unfold execOp; simp only [ho]; go_simp; try with_reducible rfl
      try simp only [Act.put, List.setIfInBounds_toArray, List.set_cons_zero, List.set_cons_succ]
      refine held_load_at 3 (some 20) 55 (.tmp 19) (by rfl) (by kernel_rfl) (by kernel_rfl) (by kernel_rfl) ((ad.add (k * 7))) ([.int .i64 gate, .int .i64 seq, .int .i64 ser, .int .i64 cnt, .int .i64 prod, .int .i64 lift, .int .i64 att] : List Value) (fun _ _ _ h => h) (by rfl) (fun _ h => h.1) _ Try.underlying55 rfl (by kernel_rfl) (by assumption) ?_
      try simp only [Act.put, List.setIfInBounds_toArray, List.set_cons_zero, List.set_cons_succ]
      refine held_run 4 (some 21) (.move (.tmp 1)) ?v6_1_6 (by rfl) (by kernel_rfl) (by kernel_rfl) (by kernel_rfl) (fun _ _ _ h => h) (fun o ho w hS => ?y6_1_6) (by assumption) ?r6_1_6
      case y6_1_6 => (try dsimp only at hS); unfold execOp; simp only [ho]; go_simp; try with_reducible rfl
      try simp only [Act.put, List.setIfInBounds_toArray, List.set_cons_zero, List.set_cons_succ]
      refine held_run 5 (some 22) (.move (.tmp 5)) ?v6_1_7 (by rfl) (by kernel_rfl) (by kernel_rfl) (by kernel_rfl) (fun _ _ _ h => h) (fun o ho w hS => ?y6_1_7) (by assumption) ?r6_1_7
      case y6_1_7 => (try dsimp only at hS); unfold execOp; simp only [ho]; go_simp; try with_reducible rfl
      try simp only [Act.put, List.setIfInBounds_toArray, List.set_cons_zero, List.set_cons_succ]
      refine held_run 6 (some 23) (.indexAddr 28 (.tmp 21) (.tmp 22)) ?v6_1_8 (by rfl) (by kernel_rfl) (by kernel_rfl) (by kernel_rfl) (fun _ _ _ h => h) (fun o ho w hS => ?y6_1_8) (by assumption) ?r6_1_8
      case y6_1_8 => (try dsimp only at hS); unfold execOp; simp only [ho]; go_simp; try with_reducible rfl
      try simp only [Act.put, List.setIfInBounds_toArray, List.set_cons_zero, List.set_cons_succ]
      refine held_load_at 7 (some 24) 55 (.tmp 23) (by rfl) (by kernel_rfl) (by kernel_rfl) (by kernel_rfl) ((ad'.add (k * 7))) ([.int .i64 gate, .int .i64 seq, .int .i64 ser, .int .i64 cnt, .int .i64 prod, .int .i64 lift, .int .i64 att] : List Value) (fun _ _ _ h => h) (by rfl) (fun _ h => h.2) _ Try.underlying55 rfl (by kernel_rfl) (by assumption) ?_
      try simp only [Act.put, List.setIfInBounds_toArray, List.set_cons_zero, List.set_cons_succ]
      refine held_run 8 (some 25) (.binOp .neq 55 (.tmp 20) (.tmp 24) 55) ?v6_1_10 (by rfl) (by kernel_rfl) (by kernel_rfl) (by kernel_rfl) (fun _ _ _ h => h) (fun o ho w hS => ?y6_1_10) (by assumption) ?r6_1_10
      case y6_1_10 => (try dsimp only at hS); unfold execOp; simp only [ho]; go_simp; try with_reducible rfl
      try simp only [Act.put, List.setIfInBounds_toArray, List.set_cons_zero, List.set_cons_succ]
      refine wpAnyH_done (by kernel_rfl) ?_ _
      have HBd : Hid (Below w.heap.size w wo.drew) := hide HB.out.drew
      go_wp2_with fail
      go_roundw
      case rel => exact ⟨k + 1, by omega, by go_num, HBd.out⟩
      case measure => simp [intOf]; omega
    · obtain rfl : k = n := by omega
      go_wp2_with fail
      try go_ret
      exact HFin.out _ HB.out
section
variable {P : Program} {w : World}
/-- a struct is stored into a part of a block -/
theorem wp_store_part {o : Oper} {a : Act} {K : Act → World → Prop} {Q : Exit → Act → World → Prop} (ty : TypeId) (x y : Operand) (ho : o.op = .store ty x y) (g f : Nat) (cells : Array Value) (hx : a.eval x = .pointer (some ⟨g, f, none⟩)) (hy : a.eval y = .agg cells)
    (t : TypeId) (old : Array Value) (hB : Blk w g t old) (hi : (P.info? ty).map (·.size) = some cells.size) (hfit : f + cells.size ≤ old.size) (h1 : ∀ u ∈ cells.toList, u.oneCell' = true) (new : Array Value) (hnew : (putL old.toList f cells.toList).toArray = new)
    (h : ∀ w', Blk w' g t new → Only g w w' → K (a.put o.dst undef) w') : o.wp P a w K Q := by
  subst hnew
  cases hq : P.info? ty with
  | none => rw [hq] at hi; cases hi
  | some inf =>
    have hs : inf.size = cells.size := by rw [hq] at hi; simpa using hi
    have hrun0 := run_storeCells_at P g f t cells.toList 0 old w hB (by rw [Nat.add_zero, Array.length_toList]; exact hfit) h1
    rw [Nat.add_zero] at hrun0
    have hrun : (storeVar ty ⟨g, f, none⟩ (.agg cells)).run P w = .ok () (w.setRow g (putL old.toList f cells.toList).toArray) := by
      unfold storeVar
      simp only [Value.cells, sizeOf, typeInfo]
      simp [hq, hs, hrun0, putL]
    unfold Oper.wp execOp
    simp only [ho, hx, hy, Instr.storeAt, Instr.sureAddr, Sem.run_bind, Sem.run_pure, Result.andThen_ok, hrun]
    exact h _ (setRow_heap w g old _ t (0, 0) hB) (Only.setRow w g _)
theorem wpList_store_part {ops : Array Oper} {rest : List Oper} {o : Oper} {a : Act} {Q : Exit → Act → World → Prop} (ty : TypeId) (x y : Operand) (ho : o.op = .store ty x y) (hw : Region.wanted o (yielded ops a.tmps) = true) (g f : Nat) (cells : Array Value) (hx : a.eval x = .pointer (some ⟨g, f, none⟩)) (hy : a.eval y = .agg cells)
    (t : TypeId) (old : Array Value) (hB : Blk w g t old) (hi : (P.info? ty).map (·.size) = some cells.size) (hfit : f + cells.size ≤ old.size) (h1 : ∀ u ∈ cells.toList, u.oneCell' = true) (new : Array Value) (hnew : (putL old.toList f cells.toList).toArray = new)
    (h : ∀ w', Blk w' g t new → Only g w w' → wpList P ops Q rest (a.put o.dst undef) w') : wpList P ops Q (o :: rest) a w :=
  wpList_want hw fun _ hK => wp_store_part ty x y ho g f cells hx hy t old hB hi hfit h1 new hnew fun w' k1 k2 => hK _ _ (h w' k1 k2)
theorem op_store_part {ops : Array Oper} {a : Act} {K : Act → World → Prop} {Q : Exit → Act → World → Prop} (i : Nat) (ty : TypeId) (x y : Operand) (hi : opFacts ops a i = some (none, .store ty x y, true)) (g f : Nat) (cells : Array Value) (hx : a.eval x = .pointer (some ⟨g, f, none⟩)) (hy : a.eval y = .agg cells)
    (t : TypeId) (old : Array Value) (hB : Blk w g t old) (hn : (P.info? ty).map (·.size) = some cells.size) (hfit : f + cells.size ≤ old.size) (h1 : ∀ u ∈ cells.toList, u.oneCell' = true) (new : Array Value) (hnew : (putL old.toList f cells.toList).toArray = new)
    (h : ∀ w', Blk w' g t new → Only g w w' → K (a.put none undef) w') : wpOp P ops Q i K a w := by
  refine op_go i none _ hi fun o hd hop K' hK => ?_
  refine wp_store_part ty x y hop g f cells hx hy t old hB hn hfit h1 new hnew fun w' k1 k2 => ?_
  rw [hd]
  exact hK _ _ (h w' k1 k2)
theorem op_load_at {ops : Array Oper} {a : Act} {K : Act → World → Prop} {Q : Exit → Act → World → Prop} (i : Nat) (d : Option Tmp) (ty : TypeId) (x : Operand) (hi : opFacts ops a i = some (d, .load ty x, true)) (p : Addr) (cs : List Value) (hx : a.eval x = .pointer (some p))
    (hc : ∀ j u, cs[j]? = some u → w.cell? (p.add j) = some u) (dsc : TypeDesc) (hu : P.underlying ty = some dsc) (hd : (match dsc with | .struct _ | .array _ _ => true | _ => false) = true) (hn : (P.info? ty).map (·.size) = some cs.length)
    (h : K (a.put d (.agg cs.toArray)) w) : wpOp P ops Q i K a w := by
  refine op_go i d _ hi fun o hod hop K' hK => ?_
  unfold Oper.wp execOp
  simp only [hop, hx, Instr.loadAt, Instr.sureAddr, Sem.run_bind, Sem.run_pure, Result.andThen_ok, run_load_at ty p cs hc dsc hu hd hn]
  subst hod
  exact hK _ _ h
/-- a part of a block, cell by cell -/
theorem Blk.part {g : Nat} {t : TypeId} {cs : Array Value} (hB : Blk w g t cs) (f : Nat) (l : List Value) (h : (cs.toList.drop f).take l.length = l) : ∀ j u, l[j]? = some u → w.cell? ((⟨g, f, none⟩ : Addr).add j) = some u := by
  intro j u hu
  have hj : j < l.length := (List.getElem?_eq_some_iff.1 hu).1
  have hadd : (⟨g, f, none⟩ : Addr).add j = ⟨g, f + j, none⟩ := by unfold Addr.add; split <;> simp_all
  rw [hadd, hB.cell (f + j)]
  rw [← h] at hu
  rw [List.getElem?_take, if_pos hj, List.getElem?_drop] at hu
  simpa using hu
end
end Go.Proofs.Ytedeggjefnpjgaa
