/-
  slices.Clone over rides; uplink.Open, Pending, walked.
  uplink.Post, walked.
  The closures of uplink; slices.IndexFunc and ContainsFunc over rides, walked.
-/
import Derived.Test.YtedeggjefnpjgaaDkB
import Derived.Shelf.Abstract
namespace Go.Proofs.Ytedeggjefnpjgaa

section
open Go.RowKit

theorem rd_one (l : List Rd) : ∀ u ∈ (l.map Rd.cells).flatten, u.oneCell' = true := by
  intro u hu
  obtain ⟨r, hr, hu⟩ := List.mem_flatten.1 hu
  obtain ⟨x, _, rfl⟩ := List.mem_map.1 hr
  simp only [Rd.cells, List.mem_cons, List.not_mem_nil, or_false] at hu
  rcases hu with rfl | rfl | rfl | rfl | rfl | rfl | rfl <;> rfl
set_option maxHeartbeats 400000 in
theorem clone_rd (A : Option Addr) (n c B : Nat) (l : List Rd) (w : World) (hr : Strs Rd.cells 7 w B A n l) (hl : l.length = n) (hn : n ≤ 1000000) (hB : B ≤ w.heap.size) :
    Calls Try.prog 34 #[.slice A n c] w fun e w' => ∃ v, e = .returned v ∧ OwnRd w' w.heap.size v l ∧ Below w.heap.size w w' := by
  have HR := Lib.hid hr
  have HL := Lib.hid hl
  clear hr hl
  have q : ∀ (w : World) (a : Option Addr) (n c n' c' : Nat), (binOp .eql 28 (.slice a n c) (.slice none n' c')).run Try.prog w = .ok (.bool a.isNone) w := fun w a n c n' c' => Lib.run_eql_slice_nil w _ _ a n c n' c' Try.underlying28
  cases A with
  | none =>
    have hn0 : n = 0 := by
      rcases Nat.eq_zero_or_pos n with h | h
      · exact h
      · obtain ⟨ad, h1, _⟩ := HR.out.2 (by omega)
        cases h1
    subst hn0
    go_enter Try.func34, Try.ntmps34
    go_wp2
    go_ret
    refine ⟨_, rfl, ?_, Below.refl _ _⟩
    rw [List.eq_nil_of_length_eq_zero HL.out]
    exact OwnRd.nil _ _
  | some ad =>
    go_enter Try.func34, Try.ntmps34
    go_wp2_with
      (at_builtin
       refine wpList_app _ ei_rd rfl (.tmp 5) (.tmp 6) rfl w.heap.size (.slice (some ⟨w.heap.size, 0, none⟩) 0 0) 0 [] rfl (World.ownsRow_lit w #[] 0 (Nat.le_refl _) (by simp [maxLen]) rfl) B (some ad) n c (l.map Rd.cells).flatten rfl (HR.out.alloc hB _) (rd_one l) (by simp only [maxLen]; omega) (by omega) (by simp) ?_
       intro v2 w2 hown2 _ hbw2 _
       have hbw : Below w.heap.size w w2 := ((Below.refl _ _).alloc (Nat.le_refl _) _).trans hbw2
       simp only [Nat.zero_add, List.nil_append] at hown2
       have HO : Hid (OwnRd w2 w.heap.size v2 l) := hide (by unfold OwnRd; rw [HL.out]; exact hown2)
       clear hown2 hbw2)
    go_ret
    exact ⟨_, rfl, HO.out, hbw⟩
theorem res_cc {P : Program} {fn : Func} {p1 p2 : Tmp} {t1 t2 : TypeId} (h : fn.results = #[.cell p1 t1, .cell p2 t2]) (tmps : Array Value) (w : World) (a1 a2 : Addr) (v1 v2 : Value) (hp1 : tmps.getD p1 undef = .pointer (some a1)) (hp2 : tmps.getD p2 undef = .pointer (some a2))
    (hl1 : (loadVar t1 a1).run P w = .ok v1 w) (hl2 : (loadVar t2 a2).run P w = .ok v2 w) : (results fn tmps).run P w = .ok (.tuple #[v1, v2]) w := by
  simp only [Array.getD_eq_getD_getElem?] at hp1 hp2
  simp [results, h, hp1, hp2, asAddr, Sem.run_bind, hl1, hl2]
/-- the boxes of a gate without rides -/
def OpR (w : World) (e : Ending) (w' : World) : Prop := e = .returned (.tuple #[.agg #[.int .i64 4, .int .i64 1, .slice none 0 0], .agg #[.int .i64 4, .int .i64 1, .slice none 0 0, .slice none 0 0]]) ∧ Below w.heap.size w w'
set_option maxRecDepth 100000 in
set_option maxHeartbeats 1000000 in
theorem open_any (w : World) : Calls Try.prog 15 #[.int .i64 4] w (OpR w) := by
  have HFin : Hid (∀ w', Below w.heap.size w w' → OpR w (.returned (.tuple #[.agg #[.int .i64 4, .int .i64 1, .slice none 0 0], .agg #[.int .i64 4, .int .i64 1, .slice none 0 0, .slice none 0 0]])) w') := fun w' h => ⟨rfl, h⟩
  generalize OpR w = RR at *
  go_enter Try.func15, Try.ntmps15
  go_upto_region 1 with (fail)
  have hwz : (w.alloc (Obj.cells #[Value.int .i64 0, Value.int .i64 0, Value.slice none 0 0] 30)).heap.size = w.heap.size + 1 := by simp
  obtain ⟨w0, hw0⟩ : ∃ W, w.alloc (Obj.cells #[Value.int .i64 0, Value.int .i64 0, Value.slice none 0 0] 30) = W := ⟨_, rfl⟩
  rw [hw0] at hwz ⊢
  have HX0 : Hid (Blk w0 w.heap.size 30 #[.int .i64 0, .int .i64 0, .slice none 0 0]) := hide (by rw [← hw0]; exact Blk.new w _ _)
  have HB0 : Hid (Below w.heap.size w w0) := hide (by rw [← hw0]; exact below_new w _)
  obtain ⟨w1, hw1⟩ : ∃ W, w0.alloc (Obj.cells #[Value.int .i64 0, Value.int .i64 0, Value.slice none 0 0, Value.slice none 0 0] 32) = W := ⟨_, rfl⟩
  rw [hw1]
  have HY1 : Hid (Blk w1 (w.heap.size + 1) 32 #[.int .i64 0, .int .i64 0, .slice none 0 0, .slice none 0 0]) := hide (by rw [← hw1, ← hwz]; exact Blk.new w0 _ _)
  have hb1 : Below w0.heap.size w0 w1 := by rw [← hw1]; exact below_new w0 _
  have HX1 := Lib.hid (HX0.out.below hb1 (by omega))
  have HB1 := Lib.hid (HB0.out.trans (hb1.mono HB0.out.size))
  clear hw0 hw1 hb1 hwz HX0 HB0
  go_wp2_with
    (first
     | (refine wpList_store_blk rfl 30 (.tmp 2) (.tmp 5) rfl w.heap.size #[.int .i64 4, .int .i64 1, .slice none 0 0] rfl rfl _ _ HX1.out (by kernel_rfl) rfl (by simp [Value.oneCell']) ?_
        intro w2 hx2 hon2
        have HX2 := Lib.hid hx2
        have HY2 := Lib.hid (hon2.blk HY1.out (by omega))
        have HB2 : Hid (Below w.heap.size w w2) := hide (hon2.below HB1.out (Nat.le_refl _))
        clear hx2 hon2)
     | (refine wpList_store_blk rfl 32 (.tmp 3) (.tmp 7) rfl (w.heap.size + 1) #[.int .i64 4, .int .i64 1, .slice none 0 0, .slice none 0 0] rfl rfl _ _ HY2.out (by kernel_rfl) rfl (by simp [Value.oneCell']) ?_
        intro w3 hy3 hon3
        have HY3 := Lib.hid hy3
        have HX3 := Lib.hid (hon3.blk HX2.out (by omega))
        have HB3 : Hid (Below w.heap.size w w3) := hide (hon3.below HB2.out (by omega))
        clear hy3 hon3))
  refine bodyPost_ret (res_cc rfl _ _ _ _ _ _ rfl rfl (load_blk HX3.out Try.underlying30 rfl (by kernel_rfl)) (load_blk HY3.out Try.underlying32 rfl (by kernel_rfl))) rfl ?_
  exact HFin.out _ HB3.out
set_option maxRecDepth 100000 in
set_option maxHeartbeats 1000000 in
theorem pending_any (g nx : Int) (A : Option Addr) (n c : Nat) (l : List Rd) (w : World) (hr : Strs Rd.cells 7 w w.heap.size A n l) (hl : l.length = n) (hn : n ≤ 1000000) :
    Calls Try.prog 30 #[.agg #[.int .i64 g, .int .i64 nx, .slice A n c]] w fun e w' => ∃ v, e = .returned v ∧ OwnRd w' w.heap.size v l ∧ Below w.heap.size w w' := by
  have HR := Lib.hid hr
  have HL := Lib.hid hl
  clear hr hl
  go_enter Try.func30, Try.ntmps30
  go_upto_region 1 with (fail)
  have HBw1 := (Blk.new w 30 #[.int .i64 g, .int .i64 nx, .slice A n c])
  have HLw1 := (below_new w (.cells #[.int .i64 g, .int .i64 nx, .slice A n c] 30))
  have hsw1 : (w.alloc (.cells #[.int .i64 g, .int .i64 nx, .slice A n c] 30)).heap.size = w.heap.size + 1 := by simp
  generalize w.alloc (.cells #[.int .i64 g, .int .i64 nx, .slice A n c] 30) = w1 at HBw1 HLw1 hsw1 ⊢
  replace HBw1 := Lib.hid HBw1
  replace HLw1 := Lib.hid HLw1
  have hlw1 : w.heap.size < w1.heap.size := by omega
  replace hsw1 := Lib.hid hsw1
  have c2 : w1.cell? ⟨w.heap.size, 2, none⟩ = some (.slice A n c) := HBw1.out.cell 2
  have HC := Lib.hid (clone_rd A n c w1.heap.size l w1 (HR.out.now HLw1.out) HL.out hn (Nat.le_refl _))
  go_wp2_with fail
  with_reducible refine HC.out.mono ?_
  rintro e w2 ⟨v, rfl, hov, hb2⟩
  have HB2 : Hid (Below w.heap.size w w2) := hide (HLw1.out.trans (hb2.mono HLw1.out.size))
  have HO := Lib.hid (OwnRd.mono hov HLw1.out.size)
  clear hov hb2 HC
  go_wp2_with fail
  try go_ret
  exact ⟨_, rfl, HO.out, HB2.out⟩
end

section
open Go.RowKit

theorem set7 (c0 c1 c2 c3 c4 c5 c6 : Value) (a : Array Value) (h : a.size = 7) : (((((((a.setIfInBounds 0 c0).setIfInBounds 1 c1).setIfInBounds 2 c2).setIfInBounds 3 c3).setIfInBounds 4 c4).setIfInBounds 5 c5).setIfInBounds 6 c6) = #[c0, c1, c2, c3, c4, c5, c6] := by
  obtain ⟨l⟩ := a
  match l, h with
  | [x0, x1, x2, x3, x4, x5, x6], _ => rfl
theorem run_lit17 {P : Program} (w : World) (t e : TypeId) (c0 c1 c2 c3 c4 c5 c6 : Value) (hu : P.underlying t = some (.slice e)) (hi : (P.info? e).map (fun i => (i.size, i.zero.map (·.cells.size))) = some (7, some 7)) : (Instr.buildSlice t 1 #[(0, .agg #[c0, c1, c2, c3, c4, c5, c6])]).run P w = .ok (.slice (some ⟨w.heap.size, 0, none⟩) 1 1) (w.alloc (.cells #[c0, c1, c2, c3, c4, c5, c6] e)) := by
  cases hq : P.info? e with
  | none => rw [hq] at hi; cases hi
  | some inf =>
    rw [hq] at hi
    simp only [Option.map_some, Option.some.injEq, Prod.mk.injEq] at hi
    obtain ⟨h1, h2⟩ := hi
    cases hz : inf.zero with
    | none => rw [hz] at h2; cases h2
    | some z =>
      simp [Instr.buildSlice, run_underlying hu, sizeOf, typeInfo, zeroValue, hq, h1, hz, Instr.fill, newRow, Value.cells]
      rw [set7 _ _ _ _ _ _ _ _ (by simp)]
theorem rd_cells_one (r : Rd) : ∀ u ∈ Rd.cells r, u.oneCell' = true := by
  intro u hu
  simp only [Rd.cells, List.mem_cons, List.not_mem_nil, or_false] at hu
  rcases hu with rfl | rfl | rfl | rfl | rfl | rfl | rfl <;> rfl
theorem OwnRd.row {w : World} {base n : Nat} {v : Value} {l : List Rd} (h : OwnRd w base v l) (hn : l.length = n) : w.ownsRow base 55 7 v n (l.map Rd.cells).flatten := by
  subst hn
  exact h
theorem OwnRd.snoc' {w : World} {base n : Nat} {v : Value} {l : List Rd} {r : Rd} (hl : l.length = n) (h : w.ownsRow base 55 7 v (n + 1) ((l.map Rd.cells).flatten ++ Rd.cells r)) : OwnRd w base v (l ++ [r]) := OwnRd.snoc h (by rw [hl]) rfl
theorem OwnRd.to0 {w : World} {base : Nat} {v : Value} {l : List Rd} (h : OwnRd w base v l) : OwnRd w 0 v l := h.mono (Nat.zero_le _)
/-- the outbox has one more ride -/
def PostR (nx : Int) (l : List Rd) (w : World) (e : Ending) (w' : World) : Prop := ∃ v, e = .returned (.tuple #[.agg #[.int .i64 4, .int .i64 (nx + 1), v], .int .i64 0]) ∧ OwnRd w' 0 v l ∧ Below w.heap.size w w'
set_option maxRecDepth 100000 in
set_option maxHeartbeats 4000000 in
theorem post_any (nx : Int) (A : Option Addr) (n c : Nat) (l : List Rd) (r : Rd) (w : World) (hr : Strs Rd.cells 7 w w.heap.size A n l) (hl : l.length = n) (hn : n < 64) (hx : 0 ≤ nx ∧ nx < 1000000) (hg : r.gate = 4) (hs : r.seq = nx) :
    Calls Try.prog 17 #[.agg #[.int .i64 4, .int .i64 nx, .slice A n c], .agg #[.int .i64 r.gate, .int .i64 r.seq, .int .i64 r.ser, .int .i64 r.cnt, .int .i64 r.prod, .int .i64 r.lift, .int .i64 r.att]] w (PostR nx (l ++ [r]) w) := by
  have HC : Hid (∀ W, Below w.heap.size w W → Calls Try.prog 34 #[.slice A n c] W fun e w' => ∃ v, e = .returned v ∧ OwnRd w' W.heap.size v l ∧ Below W.heap.size W w') := fun W h => clone_rd A n c W.heap.size l W (hr.now h) hl (by omega) (Nat.le_refl _)
  have HL := Lib.hid hl
  have HFin : Hid (∀ v w', OwnRd w' 0 v (l ++ [r]) → Below w.heap.size w w' → PostR nx (l ++ [r]) w (.returned (.tuple #[.agg #[.int .i64 4, .int .i64 (nx + 1), v], .int .i64 0])) w') := fun v w' h1 h2 => ⟨v, rfl, h1, h2⟩
  generalize PostR nx (l ++ [r]) w = RR at *
  have HOne := Lib.hid (rd_cells_one r)
  obtain ⟨gate, seq, ser, cnt, prod, lift, att⟩ := r
  simp only at hg hs
  subst hg hs
  have HOne2 : Hid (∀ u ∈ ([.int .i64 4, .int .i64 seq, .int .i64 ser, .int .i64 cnt, .int .i64 prod, .int .i64 lift, .int .i64 att] : List Value), u.oneCell' = true) := HOne
  obtain ⟨hx0, hx1⟩ := hx
  have hwr : IntKind.i64.wrap (seq + 1) = seq + 1 := by rw [IntKind.wrap_i64]; omega
  clear hr hl HOne
  go_enter Try.func17, Try.ntmps17
  go_upto_region 1 with (fail)
  have hwz : (w.alloc (Obj.cells #[Value.int .i64 4, Value.int .i64 seq, Value.slice A n c] 30)).heap.size = w.heap.size + 1 := by simp
  obtain ⟨w0, hw0⟩ : ∃ W, w.alloc (Obj.cells #[Value.int .i64 4, Value.int .i64 seq, Value.slice A n c] 30) = W := ⟨_, rfl⟩
  rw [hw0] at hwz ⊢
  have HX0 : Hid (Blk w0 w.heap.size 30 #[.int .i64 4, .int .i64 seq, .slice A n c]) := hide (by rw [← hw0]; exact Blk.new w _ _)
  have HB0 : Hid (Below w.heap.size w w0) := hide (by rw [← hw0]; exact below_new w _)
  have hwz' : (w0.alloc (Obj.cells #[Value.int .i64 4, Value.int .i64 seq, Value.int .i64 ser, Value.int .i64 cnt, Value.int .i64 prod, Value.int .i64 lift, Value.int .i64 att] 55)).heap.size = w.heap.size + 2 := by simp [hwz]
  obtain ⟨wa, hwa⟩ : ∃ W, w0.alloc (Obj.cells #[Value.int .i64 4, Value.int .i64 seq, Value.int .i64 ser, Value.int .i64 cnt, Value.int .i64 prod, Value.int .i64 lift, Value.int .i64 att] 55) = W := ⟨_, rfl⟩
  rw [hwa] at hwz' ⊢
  have HTa : Hid (Blk wa (w.heap.size + 1) 55 #[.int .i64 4, .int .i64 seq, .int .i64 ser, .int .i64 cnt, .int .i64 prod, .int .i64 lift, .int .i64 att]) := hide (by rw [← hwa, ← hwz]; exact Blk.new w0 _ _)
  have hba : Below w0.heap.size w0 wa := by rw [← hwa]; exact below_new w0 _
  have HXa := Lib.hid (HX0.out.below hba (by omega))
  have HBa := Lib.hid (HB0.out.trans (hba.mono HB0.out.size))
  obtain ⟨w1, hw1⟩ : ∃ W, wa.alloc (Obj.cells #[Value.int .i64 0, Value.int .i64 0, Value.slice none 0 0] 30) = W := ⟨_, rfl⟩
  rw [hw1]
  have HY1 : Hid (Blk w1 (w.heap.size + 2) 30 #[.int .i64 0, .int .i64 0, .slice none 0 0]) := hide (by rw [← hw1, ← hwz']; exact Blk.new wa _ _)
  have hb1 : Below wa.heap.size wa w1 := by rw [← hw1]; exact below_new wa _
  have HX1 := Lib.hid (HXa.out.below hb1 (by omega))
  have HT1 := Lib.hid (HTa.out.below hb1 (by omega))
  have HB1 := Lib.hid (HBa.out.trans (hb1.mono HBa.out.size))
  have hs1 : w.heap.size + 3 ≤ w1.heap.size := by have := HY1.out.lt; omega
  clear hw0 hwa hw1 hba hb1 hwz hwz' HX0 HB0 HXa HTa HBa
  have x0 : w1.cell? ⟨w.heap.size, 0, none⟩ = some (.int .i64 4) := HX1.out.cell 0
  have x1 : w1.cell? ⟨w.heap.size, 1, none⟩ = some (.int .i64 seq) := HX1.out.cell 1
  have x2 : w1.cell? ⟨w.heap.size, 2, none⟩ = some (.slice A n c) := HX1.out.cell 2
  have y0 : w1.cell? ⟨w.heap.size + 1, 0, none⟩ = some (.int .i64 4) := HT1.out.cell 0
  have y1 : w1.cell? ⟨w.heap.size + 1, 1, none⟩ = some (.int .i64 seq) := HT1.out.cell 1
  have d1 : ¬ ((n : Int) ≥ 64) := by omega
  have d2 : ¬ (seq ≥ 1000000) := by omega
  go_upto_region 7 with (fail)
  have hT1d : Blk w1.drew (w.heap.size + 1) 55 #[.int .i64 4, .int .i64 seq, .int .i64 ser, .int .i64 cnt, .int .i64 prod, .int .i64 lift, .int .i64 att] := HT1.out
  have HX1d : Hid (Blk w1.drew w.heap.size 30 #[.int .i64 4, .int .i64 seq, .slice A n c]) := HX1
  have HY1d : Hid (Blk w1.drew (w.heap.size + 2) 30 #[.int .i64 0, .int .i64 0, .slice none 0 0]) := HY1
  have HB1d : Hid (Below w.heap.size w w1.drew) := hide HB1.out.drew
  have x2d : w1.drew.cell? ⟨w.heap.size, 2, none⟩ = some (.slice A n c) := HX1.out.cell 2
  have hs1d : w.heap.size + 3 ≤ w1.drew.heap.size := hs1
  refine wp_region_held_drew (S := fun W => Blk W (w.heap.size + 1) 55 #[.int .i64 4, .int .i64 seq, .int .i64 ser, .int .i64 cnt, .int .i64 prod, .int .i64 lift, .int .i64 att]) (by kernel_rfl) (hT1d) (fun hHeld => ?_)
  refine held_run 0 (some 28) (.fieldAddr 30 (.tmp 2) 2) ?v7_1_2 (by rfl) (by kernel_rfl) (by kernel_rfl) (by kernel_rfl) (fun _ _ _ h => h) (fun o ho w hS => ?y7_1_2) (by assumption) ?r7_1_2
  case y7_1_2 => (try dsimp only at hS); unfold execOp; simp only [ho]; go_simp; try with_reducible rfl
  try simp only [Act.put, List.setIfInBounds_toArray, List.set_cons_zero, List.set_cons_succ]
  refine held_load 3 (some 31) 55 (.tmp 3) (by rfl) (by kernel_rfl) (by kernel_rfl) (by kernel_rfl) (w.heap.size + 1) 55 #[.int .i64 4, .int .i64 seq, .int .i64 ser, .int .i64 cnt, .int .i64 prod, .int .i64 lift, .int .i64 att] (fun _ _ _ h => h) (by rfl) (fun _ h => h) _ Try.underlying55 rfl (by kernel_rfl) (by assumption) ?_
  try simp only [Act.put, List.setIfInBounds_toArray, List.set_cons_zero, List.set_cons_succ]
  refine held_two 1 4 (by kernel_rfl) ?_ ?_
  · refine op_yield 1 (some 29) (.load 28 (.tmp 28)) ?v7_1_4 (by rfl) (fun o ho => ?y7_1_4) ?r7_1_4
    case y7_1_4 => unfold execOp; simp only [ho]; go_simp; try with_reducible rfl
    refine ⟨by assumption, ?_⟩
    try simp only [Act.put, List.setIfInBounds_toArray, List.set_cons_zero, List.set_cons_succ]
    refine held_two 2 4 (by kernel_rfl) ?_ ?_
    · refine op_call 2 (some 30) 34 [(.tmp 29)] #[28] #[.slice A n c] (by rfl) (by rfl) Try.func34 (by rfl) (by rfl) ?_
      refine (HC.out w1.drew HB1d.out).mono ?_
      rintro e w2 ⟨v2, rfl, ho2, hb2⟩
      have HB2 : Hid (Below w.heap.size w w2) := hide (HB1d.out.trans (hb2.mono HB1d.out.size))
      have hT2 := hT1d.below hb2 (by omega)
      have HX2 := Lib.hid (HX1d.out.below hb2 (by omega))
      have HY2 := Lib.hid (HY1d.out.below hb2 (by omega))
      have hs2 : w.heap.size + 3 ≤ w2.heap.size := Nat.le_trans hs1d hb2.size
      have HOc2 := Lib.hid (OwnRd.mono ho2 (show w.heap.size + 3 ≤ w1.drew.heap.size by omega))
      obtain ⟨Ac, nc, cc, rfl, HNc, hnc1, hnc2, _⟩ := (OwnRd.strV ho2).nam
      obtain rfl : n = nc := by rw [← HL.out, HNc.out]
      clear ho2 hb2
      refine ⟨_, rfl, hT2, ?_⟩
      try simp only [Act.put, List.setIfInBounds_toArray, List.set_cons_zero, List.set_cons_succ]
      refine held_one 4 (by kernel_rfl) ?_
      refine op_lit 4 (some 32) 28 55 1 #[(0, .tmp 31)] #[.int .i64 4, .int .i64 seq, .int .i64 ser, .int .i64 cnt, .int .i64 prod, .int .i64 lift, .int .i64 att] (by rfl) (by simp only [List.map_toArray, List.map_cons, List.map_nil]; exact run_lit17 (P := Try.prog) (w2) 28 55 _ _ _ _ _ _ _ Try.underlying28 (by kernel_rfl)) ?_
      intro w6 hx hb heq
      have HLt6 := Lib.hid hx
      have hlt6 : w2.heap.size < w6.heap.size := hx.lt
      have HB6 : Hid (Below w.heap.size w w6) := hide (HB2.out.trans (hb.mono HB2.out.size))
      have hT6 := hT2.below hb (by omega)
      have HX6 := Lib.hid (HX2.out.below hb (by omega))
      have HY6 := Lib.hid (HY2.out.below hb (by omega))
      have hs6 : w.heap.size + 3 ≤ w6.heap.size := Nat.le_trans hs2 hb.size
      have x26 : w6.cell? ⟨w.heap.size, 2, none⟩ = some (.slice A n c) := HX6.out.cell 2
      have HOc6 : Hid (OwnRd w6 (w.heap.size + 3) (.slice Ac n cc) l) := hide (own_below HOc2.out hb (Nat.le_refl _))
      clear hx hb heq
      refine ⟨hT6, ?_⟩
      try simp only [Act.put, List.setIfInBounds_toArray, List.set_cons_zero, List.set_cons_succ]
      refine held_one 5 (by kernel_rfl) ?_
      refine op_app ei_rd 5 (some 33) (.tmp 30) (.tmp 32) (by rfl) (w.heap.size + 3) _ _ _ rfl (HOc6.out.row HL.out) w6.heap.size (some ⟨(w2).heap.size, 0, none⟩) 1 1 [.int .i64 4, .int .i64 seq, .int .i64 ser, .int .i64 cnt, .int .i64 prod, .int .i64 lift, .int .i64 att] rfl (reads_blk HLt6.out rfl) (HOne2.out) (by simp only [maxLen]; omega) (by omega) (hs6) ?_
      intro v7 w7 hown hg7 hb7 _
      have HO7 : Hid (OwnRd w7 (w.heap.size + 3) v7 (l ++ [⟨4, seq, ser, cnt, prod, lift, att⟩])) := hide (OwnRd.snoc' HL.out hown)
      have HX7 := Lib.hid (HX6.out.grown hg7 (Ne.symm (row_blk (HOc6.out.row HL.out) HX6.out (by decide))))
      have HY7 := Lib.hid (HY6.out.grown hg7 (Ne.symm (row_blk (HOc6.out.row HL.out) HY6.out (by decide))))
      have hT7 := hT6.below hb7 (by omega)
      have HB7 : Hid (Below w.heap.size w w7) := hide (HB6.out.trans (hb7.mono (by omega)))
      obtain ⟨A7, n7, c7, rfl, _, _, _, _⟩ := (OwnRd.strV HO7.out).nam
      clear hown hg7 hb7
      refine ⟨hT7, ?_⟩
      try simp only [Act.put, List.setIfInBounds_toArray, List.set_cons_zero, List.set_cons_succ]
      refine held_run 6 (some 34) (.fieldAddr 30 (.tmp 2) 2) ?v7_1_8 (by rfl) (by kernel_rfl) (by kernel_rfl) (by kernel_rfl) (fun _ _ _ h => h) (fun o ho w hS => ?y7_1_8) (by assumption) ?r7_1_8
      case y7_1_8 => (try dsimp only at hS); unfold execOp; simp only [ho]; go_simp; try with_reducible rfl
      try simp only [Act.put, List.setIfInBounds_toArray, List.set_cons_zero, List.set_cons_succ]
      refine held_store 7 28 (.tmp 34) (.tmp 33) (by rfl) (by kernel_rfl) (w.heap.size) 2 (.slice A7 n7 c7) (by rfl) (by rfl) _ _ (HX7.out) (by kernel_rfl) (by simp) rfl rfl ?_
      intro w8 hx8 hon8
      have HX8 : Hid (Blk w8 w.heap.size 30 #[.int .i64 4, .int .i64 seq, .slice A7 n7 c7]) := hide hx8
      have HO8 : Hid (OwnRd w8 (w.heap.size + 3) (.slice A7 n7 c7) (l ++ [⟨4, seq, ser, cnt, prod, lift, att⟩])) := hide (hon8.own HO7.out (row_blk HO7.out HX7.out (by decide)))
      have HY8 := Lib.hid (hon8.blk HY7.out (by omega))
      have hT8 := hon8.blk hT7 (by omega)
      have HB8 : Hid (Below w.heap.size w w8) := hide (hon8.below HB7.out (by omega))
      have z1 : w8.cell? ⟨w.heap.size, 1, none⟩ = some (.int .i64 seq) := HX8.out.cell 1
      clear hx8 hon8
      refine ⟨hT8, ?_⟩
      try simp only [Act.put, List.setIfInBounds_toArray, List.set_cons_zero, List.set_cons_succ]
      refine wpAnyH_done (by kernel_rfl) ?_ _
      go_wp2_with
        (first
         | (refine wpList_store_field 3 (.tmp 38) (.tmp 37) rfl rfl w.heap.size 1 (.int .i64 (seq + 1)) rfl rfl 30 _ HX8.out (by kernel_rfl) (by simp) rfl rfl ?_
            intro w9 hx9 hon9
            have HX9 : Hid (Blk w9 w.heap.size 30 #[.int .i64 4, .int .i64 (seq + 1), .slice A7 n7 c7]) := hide hx9
            have HO9 : Hid (OwnRd w9 (w.heap.size + 3) (.slice A7 n7 c7) (l ++ [⟨4, seq, ser, cnt, prod, lift, att⟩])) := hide (hon9.own HO8.out (row_blk HO8.out HX8.out (by decide)))
            have HY9 := Lib.hid (hon9.blk HY8.out (by omega))
            have HB9 : Hid (Below w.heap.size w w9) := hide (hon9.below HB8.out (by omega))
            clear hx9 hon9)
         | (refine wpList_load_blk rfl 30 (.tmp 2) rfl w.heap.size rfl _ _ HX9.out _ Try.underlying30 rfl (by kernel_rfl) ?_)
         | (refine wpList_store_blk rfl 30 (.tmp 4) (.tmp 39) rfl (w.heap.size + 2) #[.int .i64 4, .int .i64 (seq + 1), .slice A7 n7 c7] rfl rfl _ _ HY9.out (by kernel_rfl) rfl (by simp [Value.oneCell']) ?_
            intro w10 hx10 hon10
            have HX10 := Lib.hid hx10
            have HS10 : Hid (OwnRd w10 0 (.slice A7 n7 c7) (l ++ [⟨4, seq, ser, cnt, prod, lift, att⟩])) := hide (OwnRd.to0 (base := w.heap.size + 3) (hon10.own HO9.out (row_blk HO9.out HY9.out (by decide))))
            have HB10 : Hid (Below w.heap.size w w10) := hide (hon10.below HB9.out (by omega))
            clear hx10 hon10))
      refine bodyPost_ret (results_cell_row_tmp rfl _ _ (w.heap.size + 2) 30 _ _ _ rfl rfl HX10.out Try.underlying30 rfl (by kernel_rfl)) rfl ?_
      exact HFin.out _ _ HS10.out HB10.out
    · refine op_lit 4 (some 32) 28 55 1 #[(0, .tmp 31)] #[.int .i64 4, .int .i64 seq, .int .i64 ser, .int .i64 cnt, .int .i64 prod, .int .i64 lift, .int .i64 att] (by rfl) (by simp only [List.map_toArray, List.map_cons, List.map_nil]; exact run_lit17 (P := Try.prog) (w1.drew) 28 55 _ _ _ _ _ _ _ Try.underlying28 (by kernel_rfl)) ?_
      intro w4 hx hb heq
      have HLt4 := Lib.hid hx
      have hlt4 : w1.drew.heap.size < w4.heap.size := hx.lt
      have HB4 : Hid (Below w.heap.size w w4) := hide (HB1d.out.trans (hb.mono HB1d.out.size))
      have hT4 := hT1d.below hb (by omega)
      have HX4 := Lib.hid (HX1d.out.below hb (by omega))
      have HY4 := Lib.hid (HY1d.out.below hb (by omega))
      have hs4 : w.heap.size + 3 ≤ w4.heap.size := Nat.le_trans hs1d hb.size
      have x24 : w4.cell? ⟨w.heap.size, 2, none⟩ = some (.slice A n c) := HX4.out.cell 2
      clear hx hb heq
      refine ⟨hT4, ?_⟩
      try simp only [Act.put, List.setIfInBounds_toArray, List.set_cons_zero, List.set_cons_succ]
      refine held_call 2 (some 30) 34 [(.tmp 29)] #[28] #[.slice A n c] (by rfl) (by rfl) (by kernel_rfl) Try.func34 (by rfl) (by rfl) ?_
      refine (HC.out w4 HB4.out).mono ?_
      rintro e w6 ⟨v6, rfl, ho6, hb6⟩
      have HB6 : Hid (Below w.heap.size w w6) := hide (HB4.out.trans (hb6.mono HB4.out.size))
      have hT6 := hT4.below hb6 (by omega)
      have HX6 := Lib.hid (HX4.out.below hb6 (by omega))
      have HY6 := Lib.hid (HY4.out.below hb6 (by omega))
      have hs6 : w.heap.size + 3 ≤ w6.heap.size := Nat.le_trans hs4 hb6.size
      have HOc6 := Lib.hid (OwnRd.mono ho6 (show w.heap.size + 3 ≤ w4.heap.size by omega))
      have HLt6 := Lib.hid (HLt4.out.below hb6 hlt4)
      obtain ⟨Ac, nc, cc, rfl, HNc, hnc1, hnc2, _⟩ := (OwnRd.strV ho6).nam
      obtain rfl : n = nc := by rw [← HL.out, HNc.out]
      clear ho6 hb6
      refine ⟨_, rfl, hT6, ?_⟩
      try simp only [Act.put, List.setIfInBounds_toArray, List.set_cons_zero, List.set_cons_succ]
      refine held_one 5 (by kernel_rfl) ?_
      refine op_app ei_rd 5 (some 33) (.tmp 30) (.tmp 32) (by rfl) (w.heap.size + 3) _ _ _ rfl (HOc6.out.row HL.out) w6.heap.size (some ⟨(w1.drew).heap.size, 0, none⟩) 1 1 [.int .i64 4, .int .i64 seq, .int .i64 ser, .int .i64 cnt, .int .i64 prod, .int .i64 lift, .int .i64 att] rfl (reads_blk HLt6.out rfl) (HOne2.out) (by simp only [maxLen]; omega) (by omega) (hs6) ?_
      intro v7 w7 hown hg7 hb7 _
      have HO7 : Hid (OwnRd w7 (w.heap.size + 3) v7 (l ++ [⟨4, seq, ser, cnt, prod, lift, att⟩])) := hide (OwnRd.snoc' HL.out hown)
      have HX7 := Lib.hid (HX6.out.grown hg7 (Ne.symm (row_blk (HOc6.out.row HL.out) HX6.out (by decide))))
      have HY7 := Lib.hid (HY6.out.grown hg7 (Ne.symm (row_blk (HOc6.out.row HL.out) HY6.out (by decide))))
      have hT7 := hT6.below hb7 (by omega)
      have HB7 : Hid (Below w.heap.size w w7) := hide (HB6.out.trans (hb7.mono (by omega)))
      obtain ⟨A7, n7, c7, rfl, _, _, _, _⟩ := (OwnRd.strV HO7.out).nam
      clear hown hg7 hb7
      refine ⟨hT7, ?_⟩
      try simp only [Act.put, List.setIfInBounds_toArray, List.set_cons_zero, List.set_cons_succ]
      refine held_run 6 (some 34) (.fieldAddr 30 (.tmp 2) 2) ?v7_1_13 (by rfl) (by kernel_rfl) (by kernel_rfl) (by kernel_rfl) (fun _ _ _ h => h) (fun o ho w hS => ?y7_1_13) (by assumption) ?r7_1_13
      case y7_1_13 => (try dsimp only at hS); unfold execOp; simp only [ho]; go_simp; try with_reducible rfl
      try simp only [Act.put, List.setIfInBounds_toArray, List.set_cons_zero, List.set_cons_succ]
      refine held_store 7 28 (.tmp 34) (.tmp 33) (by rfl) (by kernel_rfl) (w.heap.size) 2 (.slice A7 n7 c7) (by rfl) (by rfl) _ _ (HX7.out) (by kernel_rfl) (by simp) rfl rfl ?_
      intro w8 hx8 hon8
      have HX8 : Hid (Blk w8 w.heap.size 30 #[.int .i64 4, .int .i64 seq, .slice A7 n7 c7]) := hide hx8
      have HO8 : Hid (OwnRd w8 (w.heap.size + 3) (.slice A7 n7 c7) (l ++ [⟨4, seq, ser, cnt, prod, lift, att⟩])) := hide (hon8.own HO7.out (row_blk HO7.out HX7.out (by decide)))
      have HY8 := Lib.hid (hon8.blk HY7.out (by omega))
      have hT8 := hon8.blk hT7 (by omega)
      have HB8 : Hid (Below w.heap.size w w8) := hide (hon8.below HB7.out (by omega))
      have z1 : w8.cell? ⟨w.heap.size, 1, none⟩ = some (.int .i64 seq) := HX8.out.cell 1
      clear hx8 hon8
      refine ⟨hT8, ?_⟩
      try simp only [Act.put, List.setIfInBounds_toArray, List.set_cons_zero, List.set_cons_succ]
      refine wpAnyH_done (by kernel_rfl) ?_ _
      go_wp2_with
        (first
         | (refine wpList_store_field 3 (.tmp 38) (.tmp 37) rfl rfl w.heap.size 1 (.int .i64 (seq + 1)) rfl rfl 30 _ HX8.out (by kernel_rfl) (by simp) rfl rfl ?_
            intro w9 hx9 hon9
            have HX9 : Hid (Blk w9 w.heap.size 30 #[.int .i64 4, .int .i64 (seq + 1), .slice A7 n7 c7]) := hide hx9
            have HO9 : Hid (OwnRd w9 (w.heap.size + 3) (.slice A7 n7 c7) (l ++ [⟨4, seq, ser, cnt, prod, lift, att⟩])) := hide (hon9.own HO8.out (row_blk HO8.out HX8.out (by decide)))
            have HY9 := Lib.hid (hon9.blk HY8.out (by omega))
            have HB9 : Hid (Below w.heap.size w w9) := hide (hon9.below HB8.out (by omega))
            clear hx9 hon9)
         | (refine wpList_load_blk rfl 30 (.tmp 2) rfl w.heap.size rfl _ _ HX9.out _ Try.underlying30 rfl (by kernel_rfl) ?_)
         | (refine wpList_store_blk rfl 30 (.tmp 4) (.tmp 39) rfl (w.heap.size + 2) #[.int .i64 4, .int .i64 (seq + 1), .slice A7 n7 c7] rfl rfl _ _ HY9.out (by kernel_rfl) rfl (by simp [Value.oneCell']) ?_
            intro w10 hx10 hon10
            have HX10 := Lib.hid hx10
            have HS10 : Hid (OwnRd w10 0 (.slice A7 n7 c7) (l ++ [⟨4, seq, ser, cnt, prod, lift, att⟩])) := hide (OwnRd.to0 (base := w.heap.size + 3) (hon10.own HO9.out (row_blk HO9.out HY9.out (by decide))))
            have HB10 : Hid (Below w.heap.size w w10) := hide (hon10.below HB9.out (by omega))
            clear hx10 hon10))
      refine bodyPost_ret (results_cell_row_tmp rfl _ _ (w.heap.size + 2) 30 _ _ _ rfl rfl HX10.out Try.underlying30 rfl (by kernel_rfl)) rfl ?_
      exact HFin.out _ _ HS10.out HB10.out
  · refine op_lit 4 (some 32) 28 55 1 #[(0, .tmp 31)] #[.int .i64 4, .int .i64 seq, .int .i64 ser, .int .i64 cnt, .int .i64 prod, .int .i64 lift, .int .i64 att] (by rfl) (by simp only [List.map_toArray, List.map_cons, List.map_nil]; exact run_lit17 (P := Try.prog) (w1.drew) 28 55 _ _ _ _ _ _ _ Try.underlying28 (by kernel_rfl)) ?_
    intro w4 hx hb heq
    have HLt4 := Lib.hid hx
    have hlt4 : w1.drew.heap.size < w4.heap.size := hx.lt
    have HB4 : Hid (Below w.heap.size w w4) := hide (HB1d.out.trans (hb.mono HB1d.out.size))
    have hT4 := hT1d.below hb (by omega)
    have HX4 := Lib.hid (HX1d.out.below hb (by omega))
    have HY4 := Lib.hid (HY1d.out.below hb (by omega))
    have hs4 : w.heap.size + 3 ≤ w4.heap.size := Nat.le_trans hs1d hb.size
    have x24 : w4.cell? ⟨w.heap.size, 2, none⟩ = some (.slice A n c) := HX4.out.cell 2
    clear hx hb heq
    refine ⟨hT4, ?_⟩
    try simp only [Act.put, List.setIfInBounds_toArray, List.set_cons_zero, List.set_cons_succ]
    refine held_one 1 (by kernel_rfl) ?_
    refine op_yield 1 (some 29) (.load 28 (.tmp 28)) ?v7_1_16 (by rfl) (fun o ho => ?y7_1_16) ?r7_1_16
    case y7_1_16 => unfold execOp; simp only [ho]; go_simp; try with_reducible rfl
    refine ⟨by assumption, ?_⟩
    try simp only [Act.put, List.setIfInBounds_toArray, List.set_cons_zero, List.set_cons_succ]
    refine held_call 2 (some 30) 34 [(.tmp 29)] #[28] #[.slice A n c] (by rfl) (by rfl) (by kernel_rfl) Try.func34 (by rfl) (by rfl) ?_
    refine (HC.out w4 HB4.out).mono ?_
    rintro e w6 ⟨v6, rfl, ho6, hb6⟩
    have HB6 : Hid (Below w.heap.size w w6) := hide (HB4.out.trans (hb6.mono HB4.out.size))
    have hT6 := hT4.below hb6 (by omega)
    have HX6 := Lib.hid (HX4.out.below hb6 (by omega))
    have HY6 := Lib.hid (HY4.out.below hb6 (by omega))
    have hs6 : w.heap.size + 3 ≤ w6.heap.size := Nat.le_trans hs4 hb6.size
    have HOc6 := Lib.hid (OwnRd.mono ho6 (show w.heap.size + 3 ≤ w4.heap.size by omega))
    have HLt6 := Lib.hid (HLt4.out.below hb6 hlt4)
    obtain ⟨Ac, nc, cc, rfl, HNc, hnc1, hnc2, _⟩ := (OwnRd.strV ho6).nam
    obtain rfl : n = nc := by rw [← HL.out, HNc.out]
    clear ho6 hb6
    refine ⟨_, rfl, hT6, ?_⟩
    try simp only [Act.put, List.setIfInBounds_toArray, List.set_cons_zero, List.set_cons_succ]
    refine held_one 5 (by kernel_rfl) ?_
    refine op_app ei_rd 5 (some 33) (.tmp 30) (.tmp 32) (by rfl) (w.heap.size + 3) _ _ _ rfl (HOc6.out.row HL.out) w6.heap.size (some ⟨(w1.drew).heap.size, 0, none⟩) 1 1 [.int .i64 4, .int .i64 seq, .int .i64 ser, .int .i64 cnt, .int .i64 prod, .int .i64 lift, .int .i64 att] rfl (reads_blk HLt6.out rfl) (HOne2.out) (by simp only [maxLen]; omega) (by omega) (hs6) ?_
    intro v7 w7 hown hg7 hb7 _
    have HO7 : Hid (OwnRd w7 (w.heap.size + 3) v7 (l ++ [⟨4, seq, ser, cnt, prod, lift, att⟩])) := hide (OwnRd.snoc' HL.out hown)
    have HX7 := Lib.hid (HX6.out.grown hg7 (Ne.symm (row_blk (HOc6.out.row HL.out) HX6.out (by decide))))
    have HY7 := Lib.hid (HY6.out.grown hg7 (Ne.symm (row_blk (HOc6.out.row HL.out) HY6.out (by decide))))
    have hT7 := hT6.below hb7 (by omega)
    have HB7 : Hid (Below w.heap.size w w7) := hide (HB6.out.trans (hb7.mono (by omega)))
    obtain ⟨A7, n7, c7, rfl, _, _, _, _⟩ := (OwnRd.strV HO7.out).nam
    clear hown hg7 hb7
    refine ⟨hT7, ?_⟩
    try simp only [Act.put, List.setIfInBounds_toArray, List.set_cons_zero, List.set_cons_succ]
    refine held_run 6 (some 34) (.fieldAddr 30 (.tmp 2) 2) ?v7_1_19 (by rfl) (by kernel_rfl) (by kernel_rfl) (by kernel_rfl) (fun _ _ _ h => h) (fun o ho w hS => ?y7_1_19) (by assumption) ?r7_1_19
    case y7_1_19 => (try dsimp only at hS); unfold execOp; simp only [ho]; go_simp; try with_reducible rfl
    try simp only [Act.put, List.setIfInBounds_toArray, List.set_cons_zero, List.set_cons_succ]
    refine held_store 7 28 (.tmp 34) (.tmp 33) (by rfl) (by kernel_rfl) (w.heap.size) 2 (.slice A7 n7 c7) (by rfl) (by rfl) _ _ (HX7.out) (by kernel_rfl) (by simp) rfl rfl ?_
    intro w8 hx8 hon8
    have HX8 : Hid (Blk w8 w.heap.size 30 #[.int .i64 4, .int .i64 seq, .slice A7 n7 c7]) := hide hx8
    have HO8 : Hid (OwnRd w8 (w.heap.size + 3) (.slice A7 n7 c7) (l ++ [⟨4, seq, ser, cnt, prod, lift, att⟩])) := hide (hon8.own HO7.out (row_blk HO7.out HX7.out (by decide)))
    have HY8 := Lib.hid (hon8.blk HY7.out (by omega))
    have hT8 := hon8.blk hT7 (by omega)
    have HB8 : Hid (Below w.heap.size w w8) := hide (hon8.below HB7.out (by omega))
    have z1 : w8.cell? ⟨w.heap.size, 1, none⟩ = some (.int .i64 seq) := HX8.out.cell 1
    clear hx8 hon8
    refine ⟨hT8, ?_⟩
    try simp only [Act.put, List.setIfInBounds_toArray, List.set_cons_zero, List.set_cons_succ]
    refine wpAnyH_done (by kernel_rfl) ?_ _
    go_wp2_with
      (first
       | (refine wpList_store_field 3 (.tmp 38) (.tmp 37) rfl rfl w.heap.size 1 (.int .i64 (seq + 1)) rfl rfl 30 _ HX8.out (by kernel_rfl) (by simp) rfl rfl ?_
          intro w9 hx9 hon9
          have HX9 : Hid (Blk w9 w.heap.size 30 #[.int .i64 4, .int .i64 (seq + 1), .slice A7 n7 c7]) := hide hx9
          have HO9 : Hid (OwnRd w9 (w.heap.size + 3) (.slice A7 n7 c7) (l ++ [⟨4, seq, ser, cnt, prod, lift, att⟩])) := hide (hon9.own HO8.out (row_blk HO8.out HX8.out (by decide)))
          have HY9 := Lib.hid (hon9.blk HY8.out (by omega))
          have HB9 : Hid (Below w.heap.size w w9) := hide (hon9.below HB8.out (by omega))
          clear hx9 hon9)
       | (refine wpList_load_blk rfl 30 (.tmp 2) rfl w.heap.size rfl _ _ HX9.out _ Try.underlying30 rfl (by kernel_rfl) ?_)
       | (refine wpList_store_blk rfl 30 (.tmp 4) (.tmp 39) rfl (w.heap.size + 2) #[.int .i64 4, .int .i64 (seq + 1), .slice A7 n7 c7] rfl rfl _ _ HY9.out (by kernel_rfl) rfl (by simp [Value.oneCell']) ?_
          intro w10 hx10 hon10
          have HX10 := Lib.hid hx10
          have HS10 : Hid (OwnRd w10 0 (.slice A7 n7 c7) (l ++ [⟨4, seq, ser, cnt, prod, lift, att⟩])) := hide (OwnRd.to0 (base := w.heap.size + 3) (hon10.own HO9.out (row_blk HO9.out HY9.out (by decide))))
          have HB10 : Hid (Below w.heap.size w w10) := hide (hon10.below HB9.out (by omega))
          clear hx10 hon10))
    refine bodyPost_ret (results_cell_row_tmp rfl _ _ (w.heap.size + 2) 30 _ _ _ rfl rfl HX10.out Try.underlying30 rfl (by kernel_rfl)) rfl ?_
    exact HFin.out _ _ HS10.out HB10.out
end

section
open Go.RowKit

/-- a ride as a value -/
abbrev Rd.val (r : Rd) : Value := .agg #[.int .i64 r.gate, .int .i64 r.seq, .int .i64 r.ser, .int .i64 r.cnt, .int .i64 r.prod, .int .i64 r.lift, .int .i64 r.att]
set_option maxRecDepth 100000 in
set_option maxHeartbeats 1000000 in
theorem ack1_any (b : Nat) (z : Int) (r : Rd) (w : World) (hc : w.cell? ⟨b, 0, none⟩ = some (.int .i64 z)) : Calls Try.prog 37 #[r.val, .pointer (some ⟨b, 0, none⟩)] w (BoR (decide (r.seq ≤ z)) w) := by
  have HCz := Lib.hid hc
  obtain ⟨q, hq⟩ : ∃ q : Bool, q = (decide (r.seq ≤ z)) := ⟨_, rfl⟩
  rw [← hq]
  have HQ := Lib.hid hq
  have HFin : Hid (∀ w', Below w.heap.size w w' → BoR q w (.returned (.bool q)) w') := fun w' h => ⟨rfl, h⟩
  generalize BoR q w = RR at *
  obtain ⟨gate, seq, ser, cnt, prod, lift, att⟩ := r
  clear hc hq
  go_enter Try.func37, Try.ntmps37
  go_upto_region 1 with (fail)
  have HBw1 := (Blk.new w 55 #[.int .i64 gate, .int .i64 seq, .int .i64 ser, .int .i64 cnt, .int .i64 prod, .int .i64 lift, .int .i64 att])
  have HLw1 := (below_new w (.cells #[.int .i64 gate, .int .i64 seq, .int .i64 ser, .int .i64 cnt, .int .i64 prod, .int .i64 lift, .int .i64 att] 55))
  have hsw1 : (w.alloc (.cells #[.int .i64 gate, .int .i64 seq, .int .i64 ser, .int .i64 cnt, .int .i64 prod, .int .i64 lift, .int .i64 att] 55)).heap.size = w.heap.size + 1 := by simp
  generalize w.alloc (.cells #[.int .i64 gate, .int .i64 seq, .int .i64 ser, .int .i64 cnt, .int .i64 prod, .int .i64 lift, .int .i64 att] 55) = w1 at HBw1 HLw1 hsw1 ⊢
  replace HBw1 := Lib.hid HBw1
  replace HLw1 := Lib.hid HLw1
  have hlw1 : w.heap.size < w1.heap.size := by omega
  replace hsw1 := Lib.hid hsw1
  have c1 : w1.cell? ⟨w.heap.size, 1, none⟩ = some (.int .i64 seq) := HBw1.out.cell 1
  have hbw : b < w.heap.size := by
    rcases Nat.lt_or_ge b w.heap.size with h | h
    · exact h
    · have h2 := HCz.out
      simp [World.cell?, Array.getElem?_eq_none h] at h2
  have cz : w1.cell? ⟨b, 0, none⟩ = some (.int .i64 z) := (HLw1.out.cell (p := ⟨b, 0, none⟩) hbw).trans HCz.out
  go_wp2_with fail
  try go_ret
  have hf := HFin.out _ HLw1.out
  rw [HQ.out] at hf
  exact hf
set_option maxRecDepth 100000 in
set_option maxHeartbeats 1000000 in
theorem rec1_any (b : Nat) (z : Int) (r : Rd) (w : World) (hc : w.cell? ⟨b, 1, none⟩ = some (.int .i64 z)) : Calls Try.prog 40 #[r.val, .pointer (some ⟨b, 0, none⟩)] w (BoR (r.seq == z) w) := by
  have HCz := Lib.hid hc
  obtain ⟨q, hq⟩ : ∃ q : Bool, q = (r.seq == z) := ⟨_, rfl⟩
  rw [← hq]
  have HQ := Lib.hid hq
  have HFin : Hid (∀ w', Below w.heap.size w w' → BoR q w (.returned (.bool q)) w') := fun w' h => ⟨rfl, h⟩
  generalize BoR q w = RR at *
  obtain ⟨gate, seq, ser, cnt, prod, lift, att⟩ := r
  clear hc hq
  go_enter Try.func40, Try.ntmps40
  go_upto_region 1 with (fail)
  have HBw1 := (Blk.new w 55 #[.int .i64 gate, .int .i64 seq, .int .i64 ser, .int .i64 cnt, .int .i64 prod, .int .i64 lift, .int .i64 att])
  have HLw1 := (below_new w (.cells #[.int .i64 gate, .int .i64 seq, .int .i64 ser, .int .i64 cnt, .int .i64 prod, .int .i64 lift, .int .i64 att] 55))
  have hsw1 : (w.alloc (.cells #[.int .i64 gate, .int .i64 seq, .int .i64 ser, .int .i64 cnt, .int .i64 prod, .int .i64 lift, .int .i64 att] 55)).heap.size = w.heap.size + 1 := by simp
  generalize w.alloc (.cells #[.int .i64 gate, .int .i64 seq, .int .i64 ser, .int .i64 cnt, .int .i64 prod, .int .i64 lift, .int .i64 att] 55) = w1 at HBw1 HLw1 hsw1 ⊢
  replace HBw1 := Lib.hid HBw1
  replace HLw1 := Lib.hid HLw1
  have hlw1 : w.heap.size < w1.heap.size := by omega
  replace hsw1 := Lib.hid hsw1
  have c1 : w1.cell? ⟨w.heap.size, 1, none⟩ = some (.int .i64 seq) := HBw1.out.cell 1
  have hbw : b < w.heap.size := by
    rcases Nat.lt_or_ge b w.heap.size with h | h
    · exact h
    · have h2 := HCz.out
      simp [World.cell?, Array.getElem?_eq_none h] at h2
  have cz : w1.cell? ⟨b, 1, none⟩ = some (.int .i64 z) := (HLw1.out.cell (p := ⟨b, 1, none⟩) hbw).trans HCz.out
  go_wp2_with fail
  try go_ret
  have hf := HFin.out _ HLw1.out
  rw [HQ.out] at hf
  exact hf
set_option maxRecDepth 100000 in
set_option maxHeartbeats 1000000 in
theorem rec2_any (b : Nat) (z : Int) (r : Rd) (w : World) (hc : w.cell? ⟨b, 1, none⟩ = some (.int .i64 z)) : Calls Try.prog 43 #[r.val, .pointer (some ⟨b, 0, none⟩)] w (BoR (r.seq == z) w) := by
  have HCz := Lib.hid hc
  obtain ⟨q, hq⟩ : ∃ q : Bool, q = (r.seq == z) := ⟨_, rfl⟩
  rw [← hq]
  have HQ := Lib.hid hq
  have HFin : Hid (∀ w', Below w.heap.size w w' → BoR q w (.returned (.bool q)) w') := fun w' h => ⟨rfl, h⟩
  generalize BoR q w = RR at *
  obtain ⟨gate, seq, ser, cnt, prod, lift, att⟩ := r
  clear hc hq
  go_enter Try.func43, Try.ntmps43
  go_upto_region 1 with (fail)
  have HBw1 := (Blk.new w 55 #[.int .i64 gate, .int .i64 seq, .int .i64 ser, .int .i64 cnt, .int .i64 prod, .int .i64 lift, .int .i64 att])
  have HLw1 := (below_new w (.cells #[.int .i64 gate, .int .i64 seq, .int .i64 ser, .int .i64 cnt, .int .i64 prod, .int .i64 lift, .int .i64 att] 55))
  have hsw1 : (w.alloc (.cells #[.int .i64 gate, .int .i64 seq, .int .i64 ser, .int .i64 cnt, .int .i64 prod, .int .i64 lift, .int .i64 att] 55)).heap.size = w.heap.size + 1 := by simp
  generalize w.alloc (.cells #[.int .i64 gate, .int .i64 seq, .int .i64 ser, .int .i64 cnt, .int .i64 prod, .int .i64 lift, .int .i64 att] 55) = w1 at HBw1 HLw1 hsw1 ⊢
  replace HBw1 := Lib.hid HBw1
  replace HLw1 := Lib.hid HLw1
  have hlw1 : w.heap.size < w1.heap.size := by omega
  replace hsw1 := Lib.hid hsw1
  have c1 : w1.cell? ⟨w.heap.size, 1, none⟩ = some (.int .i64 seq) := HBw1.out.cell 1
  have hbw : b < w.heap.size := by
    rcases Nat.lt_or_ge b w.heap.size with h | h
    · exact h
    · have h2 := HCz.out
      simp [World.cell?, Array.getElem?_eq_none h] at h2
  have cz : w1.cell? ⟨b, 1, none⟩ = some (.int .i64 z) := (HLw1.out.cell (p := ⟨b, 1, none⟩) hbw).trans HCz.out
  go_wp2_with fail
  try go_ret
  have hf := HFin.out _ HLw1.out
  rw [HQ.out] at hf
  exact hf
set_option maxRecDepth 100000 in
set_option maxHeartbeats 1000000 in
theorem rec3_any (b : Nat) (z : Int) (r : Rd) (w : World) (hc : w.cell? ⟨b, 1, none⟩ = some (.int .i64 z)) : Calls Try.prog 44 #[r.val, .pointer (some ⟨b, 0, none⟩)] w (BoR (decide (r.seq > z)) w) := by
  have HCz := Lib.hid hc
  obtain ⟨q, hq⟩ : ∃ q : Bool, q = (decide (r.seq > z)) := ⟨_, rfl⟩
  rw [← hq]
  have HQ := Lib.hid hq
  have HFin : Hid (∀ w', Below w.heap.size w w' → BoR q w (.returned (.bool q)) w') := fun w' h => ⟨rfl, h⟩
  generalize BoR q w = RR at *
  obtain ⟨gate, seq, ser, cnt, prod, lift, att⟩ := r
  clear hc hq
  go_enter Try.func44, Try.ntmps44
  go_upto_region 1 with (fail)
  have HBw1 := (Blk.new w 55 #[.int .i64 gate, .int .i64 seq, .int .i64 ser, .int .i64 cnt, .int .i64 prod, .int .i64 lift, .int .i64 att])
  have HLw1 := (below_new w (.cells #[.int .i64 gate, .int .i64 seq, .int .i64 ser, .int .i64 cnt, .int .i64 prod, .int .i64 lift, .int .i64 att] 55))
  have hsw1 : (w.alloc (.cells #[.int .i64 gate, .int .i64 seq, .int .i64 ser, .int .i64 cnt, .int .i64 prod, .int .i64 lift, .int .i64 att] 55)).heap.size = w.heap.size + 1 := by simp
  generalize w.alloc (.cells #[.int .i64 gate, .int .i64 seq, .int .i64 ser, .int .i64 cnt, .int .i64 prod, .int .i64 lift, .int .i64 att] 55) = w1 at HBw1 HLw1 hsw1 ⊢
  replace HBw1 := Lib.hid HBw1
  replace HLw1 := Lib.hid HLw1
  have hlw1 : w.heap.size < w1.heap.size := by omega
  replace hsw1 := Lib.hid hsw1
  have c1 : w1.cell? ⟨w.heap.size, 1, none⟩ = some (.int .i64 seq) := HBw1.out.cell 1
  have hbw : b < w.heap.size := by
    rcases Nat.lt_or_ge b w.heap.size with h | h
    · exact h
    · have h2 := HCz.out
      simp [World.cell?, Array.getElem?_eq_none h] at h2
  have cz : w1.cell? ⟨b, 1, none⟩ = some (.int .i64 z) := (HLw1.out.cell (p := ⟨b, 1, none⟩) hbw).trans HCz.out
  go_wp2_with fail
  try go_ret
  have hf := HFin.out _ HLw1.out
  rw [HQ.out] at hf
  exact hf
/-- the first place at which p holds, or -1 -/
def IxR (p : Rd → Bool) (n : Nat) (l : List Rd) (w : World) (e : Ending) (w' : World) : Prop :=
  (∃ k : Nat, k < n ∧ e = .returned (.int .i64 (k : Int)) ∧ p (l.getD k rd0) = true ∧ (∀ j, j < k → p (l.getD j rd0) = false) ∧ Below w.heap.size w w') ∨
  (e = .returned (.int .i64 (-1)) ∧ (∀ j, j < n → p (l.getD j rd0) = false) ∧ Below w.heap.size w w')
set_option maxRecDepth 100000 in
set_option maxHeartbeats 4000000 in
theorem index_any (F : FuncId) (cp : Value) (p : Rd → Bool) (A : Option Addr) (n c : Nat) (l : List Rd) (w : World) (hr : Strs Rd.cells 7 w w.heap.size A n l) (hl : l.length = n) (hn : n ≤ 1000000)
    (eF : ∀ args w, (callFunc F args).run Try.prog w = .ok (.enter F args) w) (hC : ∀ r W, Below w.heap.size w W → Calls Try.prog F #[r.val, cp] W (BoR (p r) W)) :
    Calls Try.prog 39 #[.slice A n c, .func (.func F) #[] #[cp]] w (IxR p n l w) := by
  have HR := Lib.hid hr
  have HL := Lib.hid hl
  have HC := Lib.hid hC
  have HY : Hid (∀ (k : Nat) w', k < n → p (l.getD k rd0) = true → (∀ j, j < k → p (l.getD j rd0) = false) → Below w.heap.size w w' → IxR p n l w (.returned (.int .i64 (k : Int))) w') := fun k w' h1 h2 h3 h4 => .inl ⟨k, h1, rfl, h2, h3, h4⟩
  have HN : Hid (∀ w', (∀ j, j < n → p (l.getD j rd0) = false) → Below w.heap.size w w' → IxR p n l w (.returned (.int .i64 (-1))) w') := fun w' h1 h2 => .inr ⟨rfl, h1, h2⟩
  generalize IxR p n l w = RR at *
  clear hr hl hC
  go_enter Try.func39, Try.ntmps39
  go_wp2_with fail
  go_loopw [8] (fun i wr => ∃ k : Nat, k ≤ n ∧ i = .int .i64 k ∧ (∀ j, j < k → p (l.getD j rd0) = false) ∧ Below w.heap.size w wr) (fun i _ => n - (intOf i).toNat)
  case atStart => exact ⟨0, by omega, rfl, fun j hj => absurd hj (by omega), Below.refl _ _⟩
  case round =>
    obtain ⟨k, hk, rfl, hno, hbr⟩ := hrel
    obtain ⟨wo, rfl⟩ : ∃ wo : World, wo = wr := ⟨_, rfl⟩
    have HB := Lib.hid hbr
    have HNo := Lib.hid hno
    clear hno hbr
    by_cases hlt : k < n
    · obtain ⟨ad, rfl, hadb, hcl⟩ := strs_at (HR.out.below HB.out) (fun _ => rfl) HL.out hlt rd0
      have HCk := Lib.hid (HC.out (l.getD k rd0) wo HB.out)
      have HYk := HY.out k
      have HPk : Hid (∀ j, j < k + 1 → p (l.getD k rd0) = false → p (l.getD j rd0) = false) := hide (fun j hj h => by
        rcases Nat.lt_or_ge j k with h' | h'
        · exact HNo.out j h'
        · have : j = k := by omega
          subst this
          exact h)
      have HYk := Lib.hid HYk
      generalize l.getD k rd0 = r at *
      have HCl : Hid (∀ i u, (Rd.cells r)[i]? = some u → wo.cell? ((ad.add (k * 7)).add i) = some u) := hcl
      obtain ⟨q, hq⟩ : ∃ q, p r = q := ⟨_, rfl⟩
      rw [hq] at HCk HPk HYk
      have HQ := Lib.hid hq
      clear hcl hq
      obtain ⟨gate, seq, ser, cnt, prod, lift, att⟩ := r
      go_wp2_with (first | (refine wpList_load_at 55 (.tmp 14) rfl rfl (ad.add (k * 7)) rfl [.int .i64 gate, .int .i64 seq, .int .i64 ser, .int .i64 cnt, .int .i64 prod, .int .i64 lift, .int .i64 att] HCl.out _ Try.underlying55 rfl (by kernel_rfl) ?_) | (go_at_fn F; refine HCk.out.mono ?_))
      rintro e w2 ⟨rfl, hb2⟩
      have HB2 : Hid (Below w.heap.size w w2) := hide (HB.out.trans (hb2.mono HB.out.size))
      cases q with
      | true =>
        go_wp2_with fail
        try go_ret
        exact HYk.out _ hlt trivial HNo.out HB2.out
      | false =>
        go_wp2_with fail
        go_roundw
        case rel => exact ⟨k + 1, by omega, by go_num, fun j hj => HPk.out j hj trivial, HB2.out⟩
        case measure => simp [intOf]; omega
    · obtain rfl : k = n := by omega
      go_wp2_with fail
      try go_ret
      exact HN.out _ HNo.out HB.out
theorem any_yes {p : Rd → Bool} {l : List Rd} {k : Nat} (hk : k < l.length) (h : p (l.getD k rd0) = true) : l.any p = true := List.any_eq_true.2 ⟨_, rd_mem hk, h⟩
theorem any_no {p : Rd → Bool} {l : List Rd} (h : ∀ j, j < l.length → p (l.getD j rd0) = false) : l.any p = false := by
  rw [List.any_eq_false]
  intro x hx
  obtain ⟨j, hj, rfl⟩ := List.getElem_of_mem hx
  have := h j hj
  simp only [List.getD_eq_getElem?_getD, List.getElem?_eq_getElem hj, Option.getD_some] at this
  rw [this]
  exact Bool.false_ne_true
set_option maxRecDepth 100000 in
set_option maxHeartbeats 1000000 in
theorem contains_any (F : FuncId) (cp : Value) (p : Rd → Bool) (A : Option Addr) (n c : Nat) (l : List Rd) (w : World) (hr : Strs Rd.cells 7 w w.heap.size A n l) (hl : l.length = n) (hn : n ≤ 1000000)
    (eF : ∀ args w, (callFunc F args).run Try.prog w = .ok (.enter F args) w) (hC : ∀ r W, Below w.heap.size w W → Calls Try.prog F #[r.val, cp] W (BoR (p r) W)) :
    Calls Try.prog 42 #[.slice A n c, .func (.func F) #[] #[cp]] w (BoR (l.any p) w) := by
  have HI := Lib.hid (index_any F cp p A n c l w hr hl hn eF hC)
  have HY : Hid (∀ (k : Nat) w', k < n → p (l.getD k rd0) = true → Below w.heap.size w w' → BoR (l.any p) w (.returned (.bool true)) w') := fun k w' h1 h2 h3 => ⟨by rw [any_yes (by omega) h2], h3⟩
  have HN : Hid (∀ w', (∀ j, j < n → p (l.getD j rd0) = false) → Below w.heap.size w w' → BoR (l.any p) w (.returned (.bool false)) w') := fun w' h1 h2 => ⟨by rw [any_no fun j hj => h1 j (by omega)], h2⟩
  generalize BoR (l.any p) w = RR at *
  clear hr hl hC eF
  go_enter Try.func42, Try.ntmps42
  go_wp2_with fail
  with_reducible refine HI.out.mono ?_
  rintro e w2 (⟨k, hk, rfl, hp, _, hb⟩ | ⟨rfl, hq, hb⟩)
  · have d1 : (k : Int) ≥ 0 := by omega
    go_wp2_with fail
    try go_ret
    exact HY.out k _ hk hp hb
  · go_wp2_with fail
    try go_ret
    exact HN.out _ hq hb
theorem enters_ack1 : ∀ args w, (callFunc 37 args).run Try.prog w = .ok (.enter 37 args) w := enters_of Try.func37 (by kernel_rfl) rfl
theorem enters_rec1 : ∀ args w, (callFunc 40 args).run Try.prog w = .ok (.enter 40 args) w := enters_of Try.func40 (by kernel_rfl) rfl
theorem enters_rec2 : ∀ args w, (callFunc 43 args).run Try.prog w = .ok (.enter 43 args) w := enters_of Try.func43 (by kernel_rfl) rfl
theorem enters_rec3 : ∀ args w, (callFunc 44 args).run Try.prog w = .ok (.enter 44 args) w := enters_of Try.func44 (by kernel_rfl) rfl
end
end Go.Proofs.Ytedeggjefnpjgaa
