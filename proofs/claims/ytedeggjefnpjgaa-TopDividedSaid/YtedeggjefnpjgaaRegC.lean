/-
  A region that draws its order, operation by operation, where operations make or write memory: over any program.
-/
import Derived.Test.YtedeggjefnpjgaaReg
namespace Go.Proofs.Ytedeggjefnpjgaa
open Go.RowKit

section
variable {P : Program} {ops : Array Oper} {Q : Exit → Act → World → Prop} {md : Region.Mode} {S : World → Prop} {fuel : Nat} {listed : Array Bool} {a : Act} {w : World} {K : Act → World → Prop}
/-- just one operation may come up -/
theorem held_one (i : Nat) (hr : Region.ready md ops listed = [i]) (h : wpOp P ops Q i (fun a' w' => S w' ∧ wpAnyH P md ops Q S fuel (listed.setIfInBounds i true) a' w') a w) : wpAnyH P md ops Q S (fuel + 1) listed a w :=
  wpAnyH_all hr (by simp) fun j hj => by
    simp only [List.mem_cons, List.not_mem_nil, or_false] at hj
    subst hj
    exact h
/-- two operations may come up -/
theorem held_two (i j : Nat) (hr : Region.ready md ops listed = [i, j]) (h1 : wpOp P ops Q i (fun a' w' => S w' ∧ wpAnyH P md ops Q S fuel (listed.setIfInBounds i true) a' w') a w)
    (h2 : wpOp P ops Q j (fun a' w' => S w' ∧ wpAnyH P md ops Q S fuel (listed.setIfInBounds j true) a' w') a w) : wpAnyH P md ops Q S (fuel + 1) listed a w :=
  wpAnyH_all hr (by simp) fun l hl => by
    simp only [List.mem_cons, List.not_mem_nil, or_false] at hl
    rcases hl with rfl | rfl
    · exact h1
    · exact h2
theorem held_three (i j k : Nat) (hr : Region.ready md ops listed = [i, j, k]) (h1 : wpOp P ops Q i (fun a' w' => S w' ∧ wpAnyH P md ops Q S fuel (listed.setIfInBounds i true) a' w') a w)
    (h2 : wpOp P ops Q j (fun a' w' => S w' ∧ wpAnyH P md ops Q S fuel (listed.setIfInBounds j true) a' w') a w) (h3 : wpOp P ops Q k (fun a' w' => S w' ∧ wpAnyH P md ops Q S fuel (listed.setIfInBounds k true) a' w') a w) : wpAnyH P md ops Q S (fuel + 1) listed a w :=
  wpAnyH_all hr (by simp) fun l hl => by
    simp only [List.mem_cons, List.not_mem_nil, or_false] at hl
    rcases hl with rfl | rfl | rfl
    · exact h1
    · exact h2
    · exact h3
theorem held_four (i j k m : Nat) (hr : Region.ready md ops listed = [i, j, k, m]) (h1 : wpOp P ops Q i (fun a' w' => S w' ∧ wpAnyH P md ops Q S fuel (listed.setIfInBounds i true) a' w') a w)
    (h2 : wpOp P ops Q j (fun a' w' => S w' ∧ wpAnyH P md ops Q S fuel (listed.setIfInBounds j true) a' w') a w) (h3 : wpOp P ops Q k (fun a' w' => S w' ∧ wpAnyH P md ops Q S fuel (listed.setIfInBounds k true) a' w') a w)
    (h4 : wpOp P ops Q m (fun a' w' => S w' ∧ wpAnyH P md ops Q S fuel (listed.setIfInBounds m true) a' w') a w) : wpAnyH P md ops Q S (fuel + 1) listed a w :=
  wpAnyH_all hr (by simp) fun l hl => by
    simp only [List.mem_cons, List.not_mem_nil, or_false] at hl
    rcases hl with rfl | rfl | rfl | rfl
    · exact h1
    · exact h2
    · exact h3
    · exact h4
theorem op_go (i : Nat) (d : Option Tmp) (op : Op) (hi : opFacts ops a i = some (d, op, true)) (h : ∀ o : Oper, o.dst = d → o.op = op → ∀ K' : Act → World → Prop, (∀ a w, K a w → K' a w) → o.wp P a w K' Q) : wpOp P ops Q i K a w := by
  obtain ⟨o, ho, hd, hop, hw⟩ := opFacts_some hi
  refine wpOp_step ho fun K' hK => ?_
  rw [if_pos hw]
  exact h o hd hop K' hK
theorem op_call (i : Nat) (d : Option Tmp) (f : FuncId) (args : List Operand) (ts : Array TypeId) (vals : Array Value) (hv : (args.map a.eval).toArray = vals) (hi : opFacts ops a i = some (d, .call { callee := .value (.func f), args := args.toArray, argTypes := ts }, true)) {fn : Func} (hfn : P.funcs[f]? = some fn) (hb : fn.body.isNone = false) (hnm : (fn.name == "runtime.NumGoroutine") = false)
    (h : Calls P f vals w fun e w' => ∃ v, e = .returned v ∧ K (a.put d v) w') : wpOp P ops Q i K a w := by
  refine op_go i d _ hi fun o hd hop K' hK => ?_
  unfold Oper.wp execOp
  simp only [hop]
  subst hv
  have hc : (callFunc f (args.map a.eval).toArray).run P w = .ok (.enter f (args.map a.eval).toArray) w := by
    have hb' : fn.body ≠ none := fun h => by rw [h] at hb; cases hb
    have hnm' : fn.name ≠ "runtime.NumGoroutine" := fun h => by rw [h] at hnm; cases hnm
    unfold callFunc
    simp [Sem.run_bind, hfn, hb', hnm']
  go_simp
  refine h.mono fun e w' ⟨v, he, hn⟩ => ?_
  subst he
  subst hd
  exact hK _ _ hn
theorem op_alloc (i : Nat) (d : Option Tmp) (ty : TypeId) (zeros : Array Value) (hi : opFacts ops a i = some (d, .alloc ty, true)) (hz : ((P.info? ty).bind (·.zero)).map (·.cells) = some zeros)
    (h : ∀ w', Blk w' w.heap.size ty zeros → Below w.heap.size w w' → K (a.put d (.pointer (some ⟨w.heap.size, 0, none⟩))) w') : wpOp P ops Q i K a w := by
  refine op_go i d _ hi fun o hd hop K' hK => ?_
  cases hq : P.info? ty with
  | none => rw [hq] at hz; cases hz
  | some inf =>
    cases hz2 : inf.zero with
    | none => rw [hq] at hz; simp [hz2] at hz
    | some z =>
      have hzc : z.cells = zeros := by rw [hq] at hz; simpa [hz2] using hz
      have hrun : (Instr.alloc ty true (.tuple #[])).run P w = .ok (.pointer (some ⟨w.heap.size, 0, none⟩)) (w.alloc (.cells zeros ty)) := by simp [Instr.alloc, zeroValue, typeInfo, hq, hz2, newVar, newRow, hzc]
      unfold Oper.wp execOp
      simp only [hop, Sem.run_bind, hrun, Sem.run_pure, Result.andThen_ok]
      subst hd
      exact hK _ _ (h _ (Blk.new w ty zeros) (below_new w _))
theorem op_store_blk (i : Nat) (ty : TypeId) (x y : Operand) (hi : opFacts ops a i = some (none, .store ty x y, true)) (g : Nat) (cells : Array Value) (hx : a.eval x = .pointer (some ⟨g, 0, none⟩)) (hy : a.eval y = .agg cells)
    (t : TypeId) (old : Array Value) (hB : Blk w g t old) (hn : (P.info? ty).map (·.size) = some cells.size) (hold : old.size = cells.size) (h1 : cells.all (·.oneCell') = true)
    (h : ∀ w', Blk w' g t cells → Only g w w' → K (a.put none undef) w') : wpOp P ops Q i K a w := by
  refine op_go i none _ hi fun o hd hop K' hK => ?_
  refine wp_store_row ty x y hop g cells hx hy t old hB hn hold h1 ?_
  rw [hd]
  exact hK _ _ (h _ (setRow_heap w g old cells t (0, 0) hB) (Only.setRow w g cells))
theorem op_app {t e : TypeId} {size bytes : Nat} (E : EInfo P t e size bytes) (i : Nat) (d : Option Tmp) (s x : Operand) (hi : opFacts ops a i = some (d, .call { callee := .builtin .append, args := #[s, x], argTypes := #[t, t] }, true)) (base : Nat)
    (v : Value) (n : Nat) (xs : List Value) (hs : a.eval s = v) (hown : w.ownsRow base e size v n xs)
    (B : Nat) (A : Option Addr) (m c : Nat) (news : List Value) (hx : a.eval x = .slice A m c) (hr : Reads w B size A m news) (h1 : ∀ u ∈ news, u.oneCell' = true)
    (h63 : n + m ≤ maxLen) (hbytes : (n + m) * bytes ≤ 140737488355328) (hbase : base ≤ w.heap.size)
    (h : ∀ v' w', w'.ownsRow base e size v' (n + m) (xs ++ news) → w.grownBy w' v.ownBlock → Below base w w' → (v'.ownBlock = v.ownBlock ∨ v'.ownBlock = some w.heap.size) → K (a.put d v') w') : wpOp P ops Q i K a w := by
  refine op_go i d _ hi fun o hd hop K' hK => ?_
  subst hd
  exact wp_app w E s x hop base v n xs hs hown B A m c news hx hr h1 h63 hbytes hbase fun v' w' h2 h3 h4 h5 => hK _ _ (h v' w' h2 h3 h4 h5)
/-- a slice literal, given what its cells are -/
theorem op_lit (i : Nat) (d : Option Tmp) (t e : TypeId) (len : Nat) (parts : Array (Nat × Operand)) (cs : Array Value) (hi : opFacts ops a i = some (d, .buildSlice t len parts, true))
    (hrun : (Instr.buildSlice t len (parts.map fun (i, x) => (i, a.eval x))).run P w = .ok (.slice (some ⟨w.heap.size, 0, none⟩) len len) (w.alloc (.cells cs e)))
    (h : ∀ w', Blk w' w.heap.size e cs → Below w.heap.size w w' → w' = w.alloc (.cells cs e) → K (a.put d (.slice (some ⟨w.heap.size, 0, none⟩) len len)) w') : wpOp P ops Q i K a w := by
  refine op_go i d _ hi fun o hd hop K' hK => ?_
  subst hd
  unfold Oper.wp execOp
  simp only [hop, Sem.run_bind, hrun, Sem.run_pure, Result.andThen_ok]
  exact hK _ _ (h _ (Blk.new w e cs) (below_new w _) rfl)
theorem run_lit0 (w : World) (t e : TypeId) (hu : P.underlying t = some (.slice e)) (hi : (P.info? e).isSome = true) : (Instr.buildSlice t 0 #[]).run P w = .ok (.slice (some ⟨w.heap.size, 0, none⟩) 0 0) (w.alloc (.cells #[] e)) := by
  cases hq : P.info? e with
  | none => rw [hq] at hi; cases hi
  | some inf => simp [Instr.buildSlice, run_underlying hu, sizeOf, typeInfo, hq, Instr.fill, newRow]; rw [show Array.range 0 = (#[] : Array Nat) from rfl]; simp
theorem set4 (c0 c1 c2 c3 : Value) (a : Array Value) (h : a.size = 4) : ((((a.setIfInBounds 0 c0).setIfInBounds 1 c1).setIfInBounds 2 c2).setIfInBounds 3 c3) = #[c0, c1, c2, c3] := by
  obtain ⟨l⟩ := a
  match l, h with
  | [x0, x1, x2, x3], _ => rfl
theorem run_lit1 (w : World) (t e : TypeId) (c0 c1 c2 c3 : Value) (hu : P.underlying t = some (.slice e)) (hi : (P.info? e).map (fun i => (i.size, i.zero.map (·.cells.size))) = some (4, some 4)) : (Instr.buildSlice t 1 #[(0, .agg #[c0, c1, c2, c3])]).run P w = .ok (.slice (some ⟨w.heap.size, 0, none⟩) 1 1) (w.alloc (.cells #[c0, c1, c2, c3] e)) := by
  cases hq : P.info? e with
  | none => rw [hq] at hi; cases hi
  | some inf =>
    rw [hq] at hi
    simp only [Option.map_some, Option.some.injEq, Prod.mk.injEq] at hi
    obtain ⟨h1, h2⟩ := hi
    cases hz : inf.zero with
    | none => rw [hz] at h2; cases h2
    | some z =>
      simp [Instr.buildSlice, run_underlying hu, sizeOf, typeInfo, zeroValue, hq, h1, hz, Instr.fill, newRow, Value.cells]
      rw [set4 _ _ _ _ _ (by simp)]
theorem reads_blk {w : World} {g : Nat} {t : TypeId} {cs : Array Value} {n s : Nat} (h : Blk w g t cs) (hn : cs.size = n * s) : Reads w w.heap.size s (some ⟨g, 0, none⟩) n cs.toList := by
  refine ⟨by simpa using hn, fun _ => ⟨_, rfl, h.lt, fun j u hu => ?_⟩⟩
  rw [show (⟨g, 0, none⟩ : Addr).add j = ⟨g, j, none⟩ by unfold Addr.add; split <;> simp_all, h.cell j]
  simpa using hu
theorem own_one {w : World} {base : Nat} {e : TypeId} {size n : Nat} {v : Value} {xs : List Value} (h : w.ownsRow base e size v n xs) : v.oneCell' = true := by
  obtain ⟨A, c, rfl, _⟩ := own_open h
  rfl
theorem op_lit1 (i : Nat) (d : Option Tmp) (t e : TypeId) (x : Operand) (c0 c1 c2 c3 : Value) (hi : opFacts ops a i = some (d, .buildSlice t 1 #[(0, x)], true)) (hx : a.eval x = .agg #[c0, c1, c2, c3]) (hu : P.underlying t = some (.slice e)) (hn : (P.info? e).map (fun i => (i.size, i.zero.map (·.cells.size))) = some (4, some 4))
    (h : ∀ w', Blk w' w.heap.size e #[c0, c1, c2, c3] → Below w.heap.size w w' → K (a.put d (.slice (some ⟨w.heap.size, 0, none⟩) 1 1)) w') : wpOp P ops Q i K a w := by
  refine op_lit i d t e 1 #[(0, x)] #[c0, c1, c2, c3] hi ?_ fun w' h1 h2 _ => h w' h1 h2
  have := run_lit1 (P := P) w t e c0 c1 c2 c3 hu hn
  simpa [hx] using this
theorem op_lit0 (i : Nat) (d : Option Tmp) (t e : TypeId) (hi : opFacts ops a i = some (d, .buildSlice t 0 #[], true)) (hu : P.underlying t = some (.slice e)) (hn : (P.info? e).isSome = true)
    (h : ∀ w', w' = w.alloc (.cells #[] e) → Below w.heap.size w w' → K (a.put d (.slice (some ⟨w.heap.size, 0, none⟩) 0 0)) w') : wpOp P ops Q i K a w := by
  refine op_lit i d t e 0 #[] #[] hi ?_ fun w' _ h2 h3 => h w' h3 h2
  have := run_lit0 (P := P) w t e hu hn
  simpa using this
/-- a struct is built out of values -/
theorem held_build (i : Nat) (d : Option Tmp) (t : TypeId) (parts : Array (Nat × Operand)) (pv : List (Nat × Value)) (cells : Array Value) (hi : opFacts ops a i = some (d, .build t parts, true)) (hs : Region.noSelect ops = true) (hf : Region.free md ops listed i = true)
    (hr : (Region.ready md ops listed).contains i = true) (hQ : ∀ c a w, Q (.panic c) (a.put d (.agg cells)) w → Q (.panic c) a w) (hpv : (parts.map fun (i, x) => (i, a.eval x)).toList = pv) (hb : P.built t pv = some cells) (hS : S w)
    (h : wpAnyH P md ops Q S fuel (listed.setIfInBounds i true) (a.put d (.agg cells)) w) : wpAnyH P md ops Q S (fuel + 1) listed a w := by
  refine held_run i d (.build t parts) (.agg cells) hi hs hf hr hQ (fun o ho w _ => ?_) hS h
  subst hpv
  unfold execOp
  simp only [ho, Sem.run_bind, run_build w t _ cells hb, Result.andThen_ok, Sem.run_pure]
end
end Go.Proofs.Ytedeggjefnpjgaa
