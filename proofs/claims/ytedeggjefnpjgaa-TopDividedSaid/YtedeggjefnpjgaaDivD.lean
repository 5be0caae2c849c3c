/-
  network.Send, walked.
-/
import Derived.Test.YtedeggjefnpjgaaDivC
import Derived.Test.YtedeggjefnpjgaaRegY
namespace Go.Proofs.Ytedeggjefnpjgaa
open Go.RowKit

theorem set3 (c0 c1 c2 : Value) (a : Array Value) (h : a.size = 3) : (((a.setIfInBounds 0 c0).setIfInBounds 1 c1).setIfInBounds 2 c2) = #[c0, c1, c2] := by
  obtain ⟨l⟩ := a
  match l, h with
  | [x0, x1, x2], _ => rfl
theorem run_lit13 {P : Program} (w : World) (t e : TypeId) (c0 c1 c2 : Value) (hu : P.underlying t = some (.slice e)) (hi : (P.info? e).map (fun i => (i.size, i.zero.map (·.cells.size))) = some (3, some 3)) : (Instr.buildSlice t 1 #[(0, .agg #[c0, c1, c2])]).run P w = .ok (.slice (some ⟨w.heap.size, 0, none⟩) 1 1) (w.alloc (.cells #[c0, c1, c2] e)) := by
  cases hq : P.info? e with
  | none => rw [hq] at hi; cases hi
  | some inf =>
    rw [hq] at hi
    simp only [Option.map_some, Option.some.injEq, Prod.mk.injEq] at hi
    obtain ⟨h1, h2⟩ := hi
    cases hz : inf.zero with
    | none => rw [hz] at h2; cases h2
    | some z =>
      simp [Instr.buildSlice, run_underlying hu, sizeOf, typeInfo, zeroValue, hq, h1, hz, Instr.fill, newRow, Value.cells]
      rw [set3 _ _ _ _ (by simp)]
theorem OwnLs.onlyT {w w' : World} {base g : Nat} {v : Value} {l : List Lt} (h : OwnLs w base v l) (ho : Only g w w') {t : TypeId} {cs : Array Value} (hb : Blk w g t cs) (h1 : t ≠ 58) (h2 : t ≠ 5) : OwnLs w' base v l := by
  obtain ⟨zs, k1, k2, k3⟩ := h
  exact ⟨zs, k1, ho.own k2 (row_blk k2 hb h1), fun i b z hi hz => ho.own (k3 i b z hi hz) (row_blk (k3 i b z hi hz) hb h2)⟩
theorem one_ltc (a b : Int) (A : Option Addr) (n c : Nat) : ∀ u ∈ ([.int .i64 a, .int .i64 b, .slice A n c] : List Value), u.oneCell' = true := by simp [Value.oneCell']
set_option maxRecDepth 100000 in
set_option maxHeartbeats 4000000 in
theorem send_any (pA : Option Addr) (pc : Nat) (mA : Option Addr) (mn mc : Nat) (bA : Option Addr) (bn bc : Nat) (fr t : Int) (ps : List Int) (ms : List Lt) (bd : List UInt8) (w : World) (hp : Ints w w.heap.size pA 2 ps) (hm : Lts w w.heap.size mA mn ms) (hn : mn < 256) (hbl : ∀ m ∈ ms, m.bd.length ≤ 2000)
    (h1 : 0 ≤ fr ∧ fr < 2) (h2 : 0 ≤ t ∧ t < 2) (hne : fr ≠ t) (hbd : Bytes w w.heap.size bA bn bd) (hb : bn ≤ 2000) :
    Calls Try.prog 23 #[.agg #[.slice pA 2 pc, .slice mA mn mc], .int .i64 fr, .int .i64 t, .slice bA bn bc] w (NtR ps (ms ++ [⟨fr, t, bd⟩]) w) := by
  have HPa : Hid (∀ W, Calls Try.prog 46 #[.agg #[.slice pA 2 pc, .slice mA mn mc], .int .i64 fr, .int .i64 t, .slice bA bn bc] W (ErN 0 W)) := fun W => mright_any pA pc _ fr t bA bn bc W ⟨mA, mn, mc, rfl⟩ h1 h2 hne hb
  have HCo : Hid (∀ W, Below w.heap.size w W → Calls Try.prog 25 #[.agg #[.slice pA 2 pc, .slice mA mn mc]] W (CopR ps ms W)) := fun W h => ncopied_any pA pc mA mn mc ps ms W (hp.now h) (hm.now h) (by omega) hbl
  have HCl : Hid (∀ W, Below w.heap.size w W → Calls Try.prog 27 #[.slice bA bn bc] W fun e w' => ∃ v, e = .returned v ∧ OwnB w' W.heap.size v bd ∧ Below W.heap.size W w') := fun W h => clone_b bA bn bc W.heap.size bd W (hbd.now h) (by omega) (Nat.le_refl _)
  have hml : ms.length < 256 := by rw [hm.len]; exact hn
  have HFin : Hid (∀ vp vm w', NetO w' vp vm ps (ms ++ [⟨fr, t, bd⟩]) → Below w.heap.size w w' → NtR ps (ms ++ [⟨fr, t, bd⟩]) w (.returned (.tuple #[.agg #[vp, vm], .int .i64 0])) w') := fun vp vm w' h1 h2 => ⟨vp, vm, rfl, h1, h2⟩
  generalize NtR ps (ms ++ [⟨fr, t, bd⟩]) w = RR at *
  clear hp hm hbl h1 h2 hne hbd hb
  go_enter Try.func23, Try.ntmps23
  go_upto_region 1 with (fail)
  have hwz : (w.alloc (Obj.cells #[Value.slice pA 2 pc, Value.slice mA mn mc] 27)).heap.size = w.heap.size + 1 := by simp
  obtain ⟨w0, hw0⟩ : ∃ W, w.alloc (Obj.cells #[Value.slice pA 2 pc, Value.slice mA mn mc] 27) = W := ⟨_, rfl⟩
  rw [hw0] at hwz ⊢
  have HX0 : Hid (Blk w0 w.heap.size 27 #[.slice pA 2 pc, .slice mA mn mc]) := hide (by rw [← hw0]; exact Blk.new w _ _)
  have HB0 : Hid (Below w.heap.size w w0) := hide (by rw [← hw0]; exact below_new w _)
  obtain ⟨w1, hw1⟩ : ∃ W, w0.alloc (Obj.cells #[Value.slice none 0 0, Value.slice none 0 0] 27) = W := ⟨_, rfl⟩
  rw [hw1]
  have HY1 : Hid (Blk w1 (w.heap.size + 1) 27 #[.slice none 0 0, .slice none 0 0]) := hide (by rw [← hw1, ← hwz]; exact Blk.new w0 _ _)
  have hb1 : Below w0.heap.size w0 w1 := by rw [← hw1]; exact below_new w0 _
  have HX1 := Lib.hid (HX0.out.below hb1 (by omega))
  have HB1 := Lib.hid (HB0.out.trans (hb1.mono HB0.out.size))
  have hs1 : w.heap.size + 2 ≤ w1.heap.size := by have := HY1.out.lt; omega
  have n1 : w1.cell? ⟨w.heap.size, 1, none⟩ = some (.slice mA mn mc) := HX1.out.cell 1
  clear hw0 hw1 hb1 hwz HX0 HB0
  go_wp2_with (refine wpList_load_blk rfl 27 (.tmp 4) rfl w.heap.size rfl _ _ HX1.out _ Try.underlying27 rfl (by kernel_rfl) ?_)
  with_reducible refine (HPa.out w1).mono ?_
  rintro e w2 ⟨rfl, hb2⟩
  have HB2 := Lib.hid (HB1.out.trans (hb2.mono HB1.out.size))
  have HX2 := Lib.hid (HX1.out.below hb2 (by omega))
  have HY2 := Lib.hid (HY1.out.below hb2 (by omega))
  have hs2 : w.heap.size + 2 ≤ w2.heap.size := Nat.le_trans hs1 hb2.size
  have n2 : w2.cell? ⟨w.heap.size, 1, none⟩ = some (.slice mA mn mc) := HX2.out.cell 1
  clear hb2 HX1 HY1 HB1 n1 hs1
  go_wp2_with (refine wpList_load_blk rfl 27 (.tmp 4) rfl w.heap.size rfl _ _ HX2.out _ Try.underlying27 rfl (by kernel_rfl) ?_)
  with_reducible refine (HCo.out w2 HB2.out).mono ?_
  rintro e w3 ⟨vp, vm, rfl, hop, hom, hb3⟩
  have HB3 := Lib.hid (HB2.out.trans (hb3.mono HB2.out.size))
  have HY3 := Lib.hid (HY2.out.below hb3 (by omega))
  have hs3 : w.heap.size + 2 ≤ w3.heap.size := Nat.le_trans hs2 hb3.size
  have HOm := Lib.hid (hom.mono (show w.heap.size + 2 ≤ w2.heap.size from hs2))
  have HOp := Lib.hid (own_mono hop (show w.heap.size + 2 ≤ w2.heap.size from hs2))
  have hpo : vp.oneCell' = true := own_one hop
  have hmo : vm.oneCell' = true := own_one hom.choose_spec.2.1
  obtain ⟨A0, c0', rfl, _, _, _⟩ := own_open hop
  obtain ⟨Am, nm, cm, rfl, _, _, _, _⟩ := hom.nam
  clear hb3 HX2 HY2 HB2 hop hom
  go_upto_region 7 with (fail)
  have HBw4 := (Blk.new w3 27 #[.slice A0 2 c0', .slice Am nm cm])
  have HLw4 := (below_new w3 (.cells #[.slice A0 2 c0', .slice Am nm cm] 27))
  have hsw4 : (w3.alloc (.cells #[.slice A0 2 c0', .slice Am nm cm] 27)).heap.size = w3.heap.size + 1 := by simp
  generalize w3.alloc (.cells #[.slice A0 2 c0', .slice Am nm cm] 27) = w4 at HBw4 HLw4 hsw4 ⊢
  replace HBw4 := Lib.hid HBw4
  replace HLw4 := Lib.hid HLw4
  have hlw4 : w3.heap.size < w4.heap.size := by omega
  replace hsw4 := Lib.hid hsw4
  have HX4 := HBw4
  have hx4 := hlw4
  have HL4 := HLw4
  have HB4 : Hid (Below w.heap.size w w4) := hide (HB3.out.trans (HLw4.out.mono HB3.out.size))
  have HY4 := Lib.hid (HY3.out.below HLw4.out (by omega))
  have HB4d : Hid (Below w.heap.size w w4.drew) := hide HB4.out.drew
  have HL4d : Hid (Below w3.heap.size w3 w4.drew) := hide HL4.out.drew
  have cmd : w4.drew.cell? ⟨w3.heap.size, 1, none⟩ = some (.slice Am nm cm) := HX4.out.cell 1
  have hx4d : w3.heap.size < w4.drew.heap.size := hx4
  clear HBw4 HLw4 hsw4 hlw4
  refine wp_region_held_drew (S := fun _ => True) (by kernel_rfl) (trivial) (fun hHeld => ?_)
  refine held_run 0 (some 28) (.fieldAddr 27 (.tmp 11) 1) ?v7_1_2 (by rfl) (by kernel_rfl) (by kernel_rfl) (by kernel_rfl) (fun _ _ _ h => h) (fun o ho w hS => ?y7_1_2) (by assumption) ?r7_1_2
  case y7_1_2 => (try dsimp only at hS); unfold execOp; simp only [ho]; go_simp; try with_reducible rfl
  try simp only [Act.put, List.setIfInBounds_toArray, List.set_cons_zero, List.set_cons_succ]
  refine held_run 2 (some 30) (.move (.tmp 1)) ?v7_1_3 (by rfl) (by kernel_rfl) (by kernel_rfl) (by kernel_rfl) (fun _ _ _ h => h) (fun o ho w hS => ?y7_1_3) (by assumption) ?r7_1_3
  case y7_1_3 => (try dsimp only at hS); unfold execOp; simp only [ho]; go_simp; try with_reducible rfl
  try simp only [Act.put, List.setIfInBounds_toArray, List.set_cons_zero, List.set_cons_succ]
  refine held_run 3 (some 31) (.move (.tmp 2)) ?v7_1_4 (by rfl) (by kernel_rfl) (by kernel_rfl) (by kernel_rfl) (fun _ _ _ h => h) (fun o ho w hS => ?y7_1_4) (by assumption) ?r7_1_4
  case y7_1_4 => (try dsimp only at hS); unfold execOp; simp only [ho]; go_simp; try with_reducible rfl
  try simp only [Act.put, List.setIfInBounds_toArray, List.set_cons_zero, List.set_cons_succ]
  refine held_run 4 (some 32) (.move (.tmp 3)) ?v7_1_5 (by rfl) (by kernel_rfl) (by kernel_rfl) (by kernel_rfl) (fun _ _ _ h => h) (fun o ho w hS => ?y7_1_5) (by assumption) ?r7_1_5
  case y7_1_5 => (try dsimp only at hS); unfold execOp; simp only [ho]; go_simp; try with_reducible rfl
  try simp only [Act.put, List.setIfInBounds_toArray, List.set_cons_zero, List.set_cons_succ]
  refine held_two 1 5 (by kernel_rfl) ?_ ?_
  · refine op_yield 1 (some 29) (.load 25 (.tmp 28)) ?v7_1_6 (by rfl) (fun o ho => ?y7_1_6) ?r7_1_6
    case y7_1_6 => unfold execOp; simp only [ho]; go_simp; try with_reducible rfl
    refine ⟨by assumption, ?_⟩
    try simp only [Act.put, List.setIfInBounds_toArray, List.set_cons_zero, List.set_cons_succ]
    refine held_call 5 (some 33) 27 [(.tmp 32)] #[56] #[.slice bA bn bc] (by rfl) (by rfl) (by kernel_rfl) Try.func27 (by rfl) (by rfl) ?_
    refine (HCl.out w4.drew HB4d.out).mono ?_
    rintro e w5 ⟨vb, rfl, hob, hb5⟩
    have HL5 : Hid (Below w3.heap.size w3 w5) := hide (HL4d.out.trans (hb5.mono HL4d.out.size))
    have HX5 := Lib.hid (HX4.out.below (Below.refl _ _).drew hx4)
    have HX5 := Lib.hid (HX5.out.below hb5 hx4d)
    have cm5 : w5.cell? ⟨w3.heap.size, 1, none⟩ = some (.slice Am nm cm) := HX5.out.cell 1
    have HOb := Lib.hid (OwnB.mono hob (show w.heap.size + 2 ≤ w4.drew.heap.size by omega))
    have hneb : vb.ownBlock ≠ some w3.heap.size := fun e => by
      have := (hob.lt _ e).1
      omega
    have hx5 : w3.heap.size < w5.heap.size := Nat.lt_of_lt_of_le hx4d hb5.size
    obtain ⟨Ab2, nb2, cb2, rfl, _, _, _, _⟩ := hob.nam
    clear hob hb5
    refine ⟨_, rfl, trivial, ?_⟩
    try simp only [Act.put, List.setIfInBounds_toArray, List.set_cons_zero, List.set_cons_succ]
    refine held_run 6 (some 34) (.build 58 #[(0, (.tmp 30)), (1, (.tmp 31)), (2, (.tmp 33))]) ?v7_1_8 (by rfl) (by kernel_rfl) (by kernel_rfl) (by kernel_rfl) (fun _ _ _ h => h) (fun o ho w hS => ?y7_1_8) (by assumption) ?r7_1_8
    case y7_1_8 => (try dsimp only at hS); unfold execOp; simp only [ho]; go_simp; try with_reducible rfl
    try simp only [Act.put, List.setIfInBounds_toArray, List.set_cons_zero, List.set_cons_succ]
    refine held_one 7 (by kernel_rfl) ?_
    refine op_lit 7 (some 35) 25 58 1 #[(0, .tmp 34)] #[.int .i64 fr, .int .i64 t, .slice Ab2 nb2 cb2] (by rfl) (by simp only [List.map_toArray, List.map_cons, List.map_nil]; exact run_lit13 (P := Try.prog) w5 25 58 _ _ _ Try.underlying25 (by kernel_rfl)) ?_
    intro w6 hx hb _
    have HLt := Lib.hid hx
    have HL6 : Hid (Below w3.heap.size w3 w6) := hide (HL5.out.trans (hb.mono HL5.out.size))
    have HX6 := Lib.hid (HX5.out.below hb hx5)
    have cm6 : w6.cell? ⟨w3.heap.size, 1, none⟩ = some (.slice Am nm cm) := HX6.out.cell 1
    have HOb6 : Hid (OwnB w6 (w.heap.size + 2) (.slice Ab2 nb2 cb2) bd) := hide (own_below HOb.out hb (Nat.le_refl _))
    have HOm6 := Lib.hid (HOm.out.now HL6.out)
    have HP6 := HOm6.out.parts rfl
    have hx6 : w.heap.size + 2 ≤ w6.heap.size := Nat.le_trans hs3 HL6.out.size
    clear hx hb
    refine ⟨trivial, ?_⟩
    try simp only [Act.put, List.setIfInBounds_toArray, List.set_cons_zero, List.set_cons_succ]
    refine held_one 8 (by kernel_rfl) ?_
    refine op_app ei_lt 8 (some 36) (.tmp 29) (.tmp 35) (by rfl) (w.heap.size + 2) _ _ _ rfl (HP6.choose_spec.1) w6.heap.size (some ⟨w5.heap.size, 0, none⟩) 1 1 [.int .i64 fr, .int .i64 t, .slice Ab2 nb2 cb2] rfl (reads_blk HLt.out rfl) (one_ltc _ _ _ _ _) (by simp only [maxLen]; omega) (by omega) (hx6) ?_
    intro v7 w7 hown hg7 hb7 _
    have HOm7 := Lib.hid (HP6.choose_spec.2 w7 v7 ⟨fr, t, bd⟩ (.slice Ab2 nb2 cb2) hown hg7 HOb6.out)
    have HX7 := Lib.hid (HX6.out.grown hg7 (Ne.symm (row_blk HP6.choose_spec.1 HX6.out (by decide))))
    have HOp6 := own_below HOp.out HL6.out (Nat.le_refl _)
    have HOp7 := Lib.hid (World.ownsRow.kept HOp6 hg7 (own_ne HOp6 HP6.choose_spec.1 (by decide)))
    have HL7 : Hid (Below (w.heap.size + 2) w3 w7) := hide ((HL6.out.mono hs3).trans hb7)
    obtain ⟨A7, n7, c7, rfl, _, _, _, _⟩ := HOm7.out.nam
    clear hown hg7 hb7 HP6 HOp6
    refine ⟨trivial, ?_⟩
    try simp only [Act.put, List.setIfInBounds_toArray, List.set_cons_zero, List.set_cons_succ]
    refine held_run 9 (some 37) (.fieldAddr 27 (.tmp 11) 1) ?v7_1_11 (by rfl) (by kernel_rfl) (by kernel_rfl) (by kernel_rfl) (fun _ _ _ h => h) (fun o ho w hS => ?y7_1_11) (by assumption) ?r7_1_11
    case y7_1_11 => (try dsimp only at hS); unfold execOp; simp only [ho]; go_simp; try with_reducible rfl
    try simp only [Act.put, List.setIfInBounds_toArray, List.set_cons_zero, List.set_cons_succ]
    refine held_store 10 25 (.tmp 37) (.tmp 36) (by rfl) (by kernel_rfl) (w3.heap.size) 1 (.slice A7 n7 c7) (by rfl) (by rfl) _ _ (HX7.out) (by kernel_rfl) (by simp) rfl rfl ?_
    intro w8 hx8 hon8
    have HX8 : Hid (Blk w8 w3.heap.size 27 #[.slice A0 2 c0', .slice A7 n7 c7]) := hide hx8
    have HOm8 := Lib.hid (HOm7.out.onlyT hon8 HX7.out (by decide) (by decide))
    have HOp8 := Lib.hid (hon8.own HOp7.out (row_blk HOp7.out HX7.out (by decide)))
    have HL8 : Hid (Below (w.heap.size + 2) w3 w8) := hide (hon8.below HL7.out hs3)
    have HY8 := Lib.hid (HY3.out.below HL8.out (by omega))
    clear hx8 hon8
    refine ⟨trivial, ?_⟩
    try simp only [Act.put, List.setIfInBounds_toArray, List.set_cons_zero, List.set_cons_succ]
    refine wpAnyH_done (by kernel_rfl) ?_ _
    go_wp2_with
      (first
       | (refine wpList_load_blk rfl 27 (.tmp 11) rfl w3.heap.size rfl _ _ HX8.out _ Try.underlying27 rfl (by kernel_rfl) ?_)
       | (refine wpList_store_blk rfl 27 (.tmp 8) (.tmp 38) rfl (w.heap.size + 1) #[.slice A0 2 c0', .slice A7 n7 c7] rfl rfl _ _ HY8.out (by kernel_rfl) rfl (by simp [Value.oneCell']) ?_
          intro w9 hx9 hon9
          have HX9 := Lib.hid hx9
          have HN9 : Hid (NetO w9 (.slice A0 2 c0') (.slice A7 n7 c7) ps (ms ++ [⟨fr, t, bd⟩])) := hide (netV_of (hon9.own HOp8.out (row_blk HOp8.out HY8.out (by decide))) (HOm8.out.onlyT hon9 HY8.out (by decide) (by decide)))
          have HB9 : Hid (Below w.heap.size w w9) := hide (hon9.below (HB3.out.trans (HL8.out.mono (by omega))) (by omega))
          clear hx9 hon9))
    refine bodyPost_ret (results_cell_row_tmp rfl _ _ (w.heap.size + 1) 27 _ _ _ rfl rfl HX9.out Try.underlying27 rfl (by kernel_rfl)) rfl ?_
    exact HFin.out _ _ _ HN9.out HB9.out
  · refine op_call 5 (some 33) 27 [(.tmp 32)] #[56] #[.slice bA bn bc] (by rfl) (by rfl) Try.func27 (by rfl) (by rfl) ?_
    refine (HCl.out w4.drew HB4d.out).mono ?_
    rintro e w5 ⟨vb, rfl, hob, hb5⟩
    have HL5 : Hid (Below w3.heap.size w3 w5) := hide (HL4d.out.trans (hb5.mono HL4d.out.size))
    have HX5 := Lib.hid (HX4.out.below (Below.refl _ _).drew hx4)
    have HX5 := Lib.hid (HX5.out.below hb5 hx4d)
    have cm5 : w5.cell? ⟨w3.heap.size, 1, none⟩ = some (.slice Am nm cm) := HX5.out.cell 1
    have HOb := Lib.hid (OwnB.mono hob (show w.heap.size + 2 ≤ w4.drew.heap.size by omega))
    have hneb : vb.ownBlock ≠ some w3.heap.size := fun e => by
      have := (hob.lt _ e).1
      omega
    have hx5 : w3.heap.size < w5.heap.size := Nat.lt_of_lt_of_le hx4d hb5.size
    obtain ⟨Ab2, nb2, cb2, rfl, _, _, _, _⟩ := hob.nam
    clear hob hb5
    refine ⟨_, rfl, trivial, ?_⟩
    try simp only [Act.put, List.setIfInBounds_toArray, List.set_cons_zero, List.set_cons_succ]
    refine held_run 6 (some 34) (.build 58 #[(0, (.tmp 30)), (1, (.tmp 31)), (2, (.tmp 33))]) ?v7_1_14 (by rfl) (by kernel_rfl) (by kernel_rfl) (by kernel_rfl) (fun _ _ _ h => h) (fun o ho w hS => ?y7_1_14) (by assumption) ?r7_1_14
    case y7_1_14 => (try dsimp only at hS); unfold execOp; simp only [ho]; go_simp; try with_reducible rfl
    try simp only [Act.put, List.setIfInBounds_toArray, List.set_cons_zero, List.set_cons_succ]
    refine held_two 1 7 (by kernel_rfl) ?_ ?_
    · refine op_yield 1 (some 29) (.load 25 (.tmp 28)) ?v7_1_15 (by rfl) (fun o ho => ?y7_1_15) ?r7_1_15
      case y7_1_15 => unfold execOp; simp only [ho]; go_simp; try with_reducible rfl
      refine ⟨by assumption, ?_⟩
      try simp only [Act.put, List.setIfInBounds_toArray, List.set_cons_zero, List.set_cons_succ]
      refine held_one 7 (by kernel_rfl) ?_
      refine op_lit 7 (some 35) 25 58 1 #[(0, .tmp 34)] #[.int .i64 fr, .int .i64 t, .slice Ab2 nb2 cb2] (by rfl) (by simp only [List.map_toArray, List.map_cons, List.map_nil]; exact run_lit13 (P := Try.prog) w5 25 58 _ _ _ Try.underlying25 (by kernel_rfl)) ?_
      intro w6 hx hb _
      have HLt := Lib.hid hx
      have HL6 : Hid (Below w3.heap.size w3 w6) := hide (HL5.out.trans (hb.mono HL5.out.size))
      have HX6 := Lib.hid (HX5.out.below hb hx5)
      have cm6 : w6.cell? ⟨w3.heap.size, 1, none⟩ = some (.slice Am nm cm) := HX6.out.cell 1
      have HOb6 : Hid (OwnB w6 (w.heap.size + 2) (.slice Ab2 nb2 cb2) bd) := hide (own_below HOb.out hb (Nat.le_refl _))
      have HOm6 := Lib.hid (HOm.out.now HL6.out)
      have HP6 := HOm6.out.parts rfl
      have hx6 : w.heap.size + 2 ≤ w6.heap.size := Nat.le_trans hs3 HL6.out.size
      clear hx hb
      refine ⟨trivial, ?_⟩
      try simp only [Act.put, List.setIfInBounds_toArray, List.set_cons_zero, List.set_cons_succ]
      refine held_one 8 (by kernel_rfl) ?_
      refine op_app ei_lt 8 (some 36) (.tmp 29) (.tmp 35) (by rfl) (w.heap.size + 2) _ _ _ rfl (HP6.choose_spec.1) w6.heap.size (some ⟨w5.heap.size, 0, none⟩) 1 1 [.int .i64 fr, .int .i64 t, .slice Ab2 nb2 cb2] rfl (reads_blk HLt.out rfl) (one_ltc _ _ _ _ _) (by simp only [maxLen]; omega) (by omega) (hx6) ?_
      intro v7 w7 hown hg7 hb7 _
      have HOm7 := Lib.hid (HP6.choose_spec.2 w7 v7 ⟨fr, t, bd⟩ (.slice Ab2 nb2 cb2) hown hg7 HOb6.out)
      have HX7 := Lib.hid (HX6.out.grown hg7 (Ne.symm (row_blk HP6.choose_spec.1 HX6.out (by decide))))
      have HOp6 := own_below HOp.out HL6.out (Nat.le_refl _)
      have HOp7 := Lib.hid (World.ownsRow.kept HOp6 hg7 (own_ne HOp6 HP6.choose_spec.1 (by decide)))
      have HL7 : Hid (Below (w.heap.size + 2) w3 w7) := hide ((HL6.out.mono hs3).trans hb7)
      obtain ⟨A7, n7, c7, rfl, _, _, _, _⟩ := HOm7.out.nam
      clear hown hg7 hb7 HP6 HOp6
      refine ⟨trivial, ?_⟩
      try simp only [Act.put, List.setIfInBounds_toArray, List.set_cons_zero, List.set_cons_succ]
      refine held_run 9 (some 37) (.fieldAddr 27 (.tmp 11) 1) ?v7_1_18 (by rfl) (by kernel_rfl) (by kernel_rfl) (by kernel_rfl) (fun _ _ _ h => h) (fun o ho w hS => ?y7_1_18) (by assumption) ?r7_1_18
      case y7_1_18 => (try dsimp only at hS); unfold execOp; simp only [ho]; go_simp; try with_reducible rfl
      try simp only [Act.put, List.setIfInBounds_toArray, List.set_cons_zero, List.set_cons_succ]
      refine held_store 10 25 (.tmp 37) (.tmp 36) (by rfl) (by kernel_rfl) (w3.heap.size) 1 (.slice A7 n7 c7) (by rfl) (by rfl) _ _ (HX7.out) (by kernel_rfl) (by simp) rfl rfl ?_
      intro w8 hx8 hon8
      have HX8 : Hid (Blk w8 w3.heap.size 27 #[.slice A0 2 c0', .slice A7 n7 c7]) := hide hx8
      have HOm8 := Lib.hid (HOm7.out.onlyT hon8 HX7.out (by decide) (by decide))
      have HOp8 := Lib.hid (hon8.own HOp7.out (row_blk HOp7.out HX7.out (by decide)))
      have HL8 : Hid (Below (w.heap.size + 2) w3 w8) := hide (hon8.below HL7.out hs3)
      have HY8 := Lib.hid (HY3.out.below HL8.out (by omega))
      clear hx8 hon8
      refine ⟨trivial, ?_⟩
      try simp only [Act.put, List.setIfInBounds_toArray, List.set_cons_zero, List.set_cons_succ]
      refine wpAnyH_done (by kernel_rfl) ?_ _
      go_wp2_with
        (first
         | (refine wpList_load_blk rfl 27 (.tmp 11) rfl w3.heap.size rfl _ _ HX8.out _ Try.underlying27 rfl (by kernel_rfl) ?_)
         | (refine wpList_store_blk rfl 27 (.tmp 8) (.tmp 38) rfl (w.heap.size + 1) #[.slice A0 2 c0', .slice A7 n7 c7] rfl rfl _ _ HY8.out (by kernel_rfl) rfl (by simp [Value.oneCell']) ?_
            intro w9 hx9 hon9
            have HX9 := Lib.hid hx9
            have HN9 : Hid (NetO w9 (.slice A0 2 c0') (.slice A7 n7 c7) ps (ms ++ [⟨fr, t, bd⟩])) := hide (netV_of (hon9.own HOp8.out (row_blk HOp8.out HY8.out (by decide))) (HOm8.out.onlyT hon9 HY8.out (by decide) (by decide)))
            have HB9 : Hid (Below w.heap.size w w9) := hide (hon9.below (HB3.out.trans (HL8.out.mono (by omega))) (by omega))
            clear hx9 hon9))
      refine bodyPost_ret (results_cell_row_tmp rfl _ _ (w.heap.size + 1) 27 _ _ _ rfl rfl HX9.out Try.underlying27 rfl (by kernel_rfl)) rfl ?_
      exact HFin.out _ _ _ HN9.out HB9.out
    · refine op_lit 7 (some 35) 25 58 1 #[(0, .tmp 34)] #[.int .i64 fr, .int .i64 t, .slice Ab2 nb2 cb2] (by rfl) (by simp only [List.map_toArray, List.map_cons, List.map_nil]; exact run_lit13 (P := Try.prog) w5 25 58 _ _ _ Try.underlying25 (by kernel_rfl)) ?_
      intro w6 hx hb _
      have HLt := Lib.hid hx
      have HL6 : Hid (Below w3.heap.size w3 w6) := hide (HL5.out.trans (hb.mono HL5.out.size))
      have HX6 := Lib.hid (HX5.out.below hb hx5)
      have cm6 : w6.cell? ⟨w3.heap.size, 1, none⟩ = some (.slice Am nm cm) := HX6.out.cell 1
      have HOb6 : Hid (OwnB w6 (w.heap.size + 2) (.slice Ab2 nb2 cb2) bd) := hide (own_below HOb.out hb (Nat.le_refl _))
      have HOm6 := Lib.hid (HOm.out.now HL6.out)
      have HP6 := HOm6.out.parts rfl
      have hx6 : w.heap.size + 2 ≤ w6.heap.size := Nat.le_trans hs3 HL6.out.size
      clear hx hb
      refine ⟨trivial, ?_⟩
      try simp only [Act.put, List.setIfInBounds_toArray, List.set_cons_zero, List.set_cons_succ]
      refine held_one 1 (by kernel_rfl) ?_
      refine op_yield 1 (some 29) (.load 25 (.tmp 28)) ?v7_1_21 (by rfl) (fun o ho => ?y7_1_21) ?r7_1_21
      case y7_1_21 => unfold execOp; simp only [ho]; go_simp; try with_reducible rfl
      refine ⟨by assumption, ?_⟩
      try simp only [Act.put, List.setIfInBounds_toArray, List.set_cons_zero, List.set_cons_succ]
      refine held_one 8 (by kernel_rfl) ?_
      refine op_app ei_lt 8 (some 36) (.tmp 29) (.tmp 35) (by rfl) (w.heap.size + 2) _ _ _ rfl (HP6.choose_spec.1) w6.heap.size (some ⟨w5.heap.size, 0, none⟩) 1 1 [.int .i64 fr, .int .i64 t, .slice Ab2 nb2 cb2] rfl (reads_blk HLt.out rfl) (one_ltc _ _ _ _ _) (by simp only [maxLen]; omega) (by omega) (hx6) ?_
      intro v7 w7 hown hg7 hb7 _
      have HOm7 := Lib.hid (HP6.choose_spec.2 w7 v7 ⟨fr, t, bd⟩ (.slice Ab2 nb2 cb2) hown hg7 HOb6.out)
      have HX7 := Lib.hid (HX6.out.grown hg7 (Ne.symm (row_blk HP6.choose_spec.1 HX6.out (by decide))))
      have HOp6 := own_below HOp.out HL6.out (Nat.le_refl _)
      have HOp7 := Lib.hid (World.ownsRow.kept HOp6 hg7 (own_ne HOp6 HP6.choose_spec.1 (by decide)))
      have HL7 : Hid (Below (w.heap.size + 2) w3 w7) := hide ((HL6.out.mono hs3).trans hb7)
      obtain ⟨A7, n7, c7, rfl, _, _, _, _⟩ := HOm7.out.nam
      clear hown hg7 hb7 HP6 HOp6
      refine ⟨trivial, ?_⟩
      try simp only [Act.put, List.setIfInBounds_toArray, List.set_cons_zero, List.set_cons_succ]
      refine held_run 9 (some 37) (.fieldAddr 27 (.tmp 11) 1) ?v7_1_23 (by rfl) (by kernel_rfl) (by kernel_rfl) (by kernel_rfl) (fun _ _ _ h => h) (fun o ho w hS => ?y7_1_23) (by assumption) ?r7_1_23
      case y7_1_23 => (try dsimp only at hS); unfold execOp; simp only [ho]; go_simp; try with_reducible rfl
      try simp only [Act.put, List.setIfInBounds_toArray, List.set_cons_zero, List.set_cons_succ]
      refine held_store 10 25 (.tmp 37) (.tmp 36) (by rfl) (by kernel_rfl) (w3.heap.size) 1 (.slice A7 n7 c7) (by rfl) (by rfl) _ _ (HX7.out) (by kernel_rfl) (by simp) rfl rfl ?_
      intro w8 hx8 hon8
      have HX8 : Hid (Blk w8 w3.heap.size 27 #[.slice A0 2 c0', .slice A7 n7 c7]) := hide hx8
      have HOm8 := Lib.hid (HOm7.out.onlyT hon8 HX7.out (by decide) (by decide))
      have HOp8 := Lib.hid (hon8.own HOp7.out (row_blk HOp7.out HX7.out (by decide)))
      have HL8 : Hid (Below (w.heap.size + 2) w3 w8) := hide (hon8.below HL7.out hs3)
      have HY8 := Lib.hid (HY3.out.below HL8.out (by omega))
      clear hx8 hon8
      refine ⟨trivial, ?_⟩
      try simp only [Act.put, List.setIfInBounds_toArray, List.set_cons_zero, List.set_cons_succ]
      refine wpAnyH_done (by kernel_rfl) ?_ _
      go_wp2_with
        (first
         | (refine wpList_load_blk rfl 27 (.tmp 11) rfl w3.heap.size rfl _ _ HX8.out _ Try.underlying27 rfl (by kernel_rfl) ?_)
         | (refine wpList_store_blk rfl 27 (.tmp 8) (.tmp 38) rfl (w.heap.size + 1) #[.slice A0 2 c0', .slice A7 n7 c7] rfl rfl _ _ HY8.out (by kernel_rfl) rfl (by simp [Value.oneCell']) ?_
            intro w9 hx9 hon9
            have HX9 := Lib.hid hx9
            have HN9 : Hid (NetO w9 (.slice A0 2 c0') (.slice A7 n7 c7) ps (ms ++ [⟨fr, t, bd⟩])) := hide (netV_of (hon9.own HOp8.out (row_blk HOp8.out HY8.out (by decide))) (HOm8.out.onlyT hon9 HY8.out (by decide) (by decide)))
            have HB9 : Hid (Below w.heap.size w w9) := hide (hon9.below (HB3.out.trans (HL8.out.mono (by omega))) (by omega))
            clear hx9 hon9))
      refine bodyPost_ret (results_cell_row_tmp rfl _ _ (w.heap.size + 1) 27 _ _ _ rfl rfl HX9.out Try.underlying27 rfl (by kernel_rfl)) rfl ?_
      exact HFin.out _ _ _ HN9.out HB9.out
end Go.Proofs.Ytedeggjefnpjgaa
