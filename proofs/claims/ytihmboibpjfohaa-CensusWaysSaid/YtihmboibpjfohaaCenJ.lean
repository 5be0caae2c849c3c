/-
  The closures of flow.Find, walked.
-/
import Derived.Test.YtihmboibpjfohaaCenI
import Derived.Test.YtihmboibpjfohaaFlsN
import Derived.Test.YtihmboibpjfohaaRegY
namespace Go.Proofs.Ytihmboibpjfohaa
open Go.RowKit

set_option maxRecDepth 100000 in
theorem least_any (A F : Option Addr) (n c c2 : Nat) (es : List Ed) (f : List Int) (m : Mv) (more lo : Int) (g1 g2 g3 : Nat) (w : World) (hr : Strs Ed.cells 4 w w.heap.size A n es) (hl : es.length = n) (hc : n ≤ c) (hc2 : c ≤ maxLen) (hf : Ints w w.heap.size F n f) (hd : n ≤ c2) (hd2 : c2 ≤ maxLen) (hB : Bnd es f) (hm : m.edge < n)
    (h1 : Blk w g1 3 #[.int .i64 more]) (h2 : Blk w g2 66 #[.slice A n c]) (h3 : Blk w g3 42 #[.slice F n c2]) (hlo : (if roomN es f m < more then roomN es f m else more) = lo) :
    Calls Try.prog 59 #[enM m, .pointer (some ⟨g1, 0, none⟩), .pointer (some ⟨g2, 0, none⟩), .pointer (some ⟨g3, 0, none⟩)] w fun e w' => e = .returned (.tuple #[]) ∧ Blk w' g1 3 #[.int .i64 lo] ∧ w.grownBy w' (some g1) := by
  obtain ⟨k, fw⟩ := m
  have HRm : Hid (∀ W : World, Below w.heap.size w W → Calls Try.prog 57 #[.slice A n c, .slice F n c2, .agg #[.int .i64 (k : Int), .bool fw]] W fun e w' => e = .returned (.int .i64 (roomN es f ⟨k, fw⟩)) ∧ Below W.heap.size W w') := fun W hb => room_any A F n c c2 es f ⟨k, fw⟩ W (hr.now hb) hl hc hc2 (hf.now hb) hd hd2 hB hm
  generalize roomN es f ⟨k, fw⟩ = rm at *
  have H1 := Lib.hid h1
  have H2 := Lib.hid h2
  have H3 := Lib.hid h3
  clear hr hf h1 h2 h3 hB
  show Calls Try.prog 59 #[.agg #[.int .i64 (k : Int), .bool fw], .pointer (some ⟨g1, 0, none⟩), .pointer (some ⟨g2, 0, none⟩), .pointer (some ⟨g3, 0, none⟩)] w _
  go_enter Try.func59, Try.ntmps59
  go_upto_region 1 with (fail)
  have HBw0 := (Blk.new w 85 #[.int .i64 (k : Int), .bool fw])
  have HLw0 := (below_new w (.cells #[.int .i64 (k : Int), .bool fw] 85))
  have hsw0 : (w.alloc (.cells #[.int .i64 (k : Int), .bool fw] 85)).heap.size = w.heap.size + 1 := by simp
  generalize w.alloc (.cells #[.int .i64 (k : Int), .bool fw] 85) = w0 at HBw0 HLw0 hsw0 ⊢
  replace HBw0 := Lib.hid HBw0
  replace HLw0 := Lib.hid HLw0
  have hlw0 : w.heap.size < w0.heap.size := by omega
  replace hsw0 := Lib.hid hsw0
  have hs : ∀ W : World, Below w0.heap.size w0 W → (fun W => W.cell? ⟨g2, 0, none⟩ = some (.slice A n c) ∧ W.cell? ⟨g3, 0, none⟩ = some (.slice F n c2) ∧ Blk W w.heap.size 85 #[.int .i64 (k : Int), .bool fw]) W := fun W hb => ⟨(H2.out.below (HLw0.out.trans (hb.mono HLw0.out.size)) H2.out.lt).cell 0, (H3.out.below (HLw0.out.trans (hb.mono HLw0.out.size)) H3.out.lt).cell 0, HBw0.out.below hb hlw0⟩
  have HSa := Lib.hid hs
  have HMo : Hid (∀ W : World, Below w0.heap.size w0 W → W.cell? ⟨g1, 0, none⟩ = some (.int .i64 more)) := fun W hb => (H1.out.below (HLw0.out.trans (hb.mono HLw0.out.size)) H1.out.lt).cell 0
  have cm0 : w0.cell? ⟨g1, 0, none⟩ = some (.int .i64 more) := HMo.out _ (Below.refl _ _)
  clear hs
  refine wp_region_held_drew (S := fun W => W.cell? ⟨g2, 0, none⟩ = some (.slice A n c) ∧ W.cell? ⟨g3, 0, none⟩ = some (.slice F n c2) ∧ Blk W w.heap.size 85 #[.int .i64 (k : Int), .bool fw]) (by kernel_rfl) (HSa.out _ (Below.refl _ _).drew) (fun hHeld => ?_)
  refine held_run 1 (some 6) (.load 66 (.tmp 2)) ?v1_1_2 (by rfl) (by kernel_rfl) (by kernel_rfl) (by kernel_rfl) (fun _ _ _ h => h) (fun o ho w hS => ?y1_1_2) (by assumption) ?r1_1_2
  case y1_1_2 => (try dsimp only at hS); unfold execOp; simp only [ho]; go_simp; try with_reducible rfl
  try simp only [Act.put, List.setIfInBounds_toArray, List.set_cons_zero, List.set_cons_succ]
  refine held_run 2 (some 7) (.load 42 (.tmp 3)) ?v1_1_3 (by rfl) (by kernel_rfl) (by kernel_rfl) (by kernel_rfl) (fun _ _ _ h => h) (fun o ho w hS => ?y1_1_3) (by assumption) ?r1_1_3
  case y1_1_3 => (try dsimp only at hS); unfold execOp; simp only [ho]; go_simp; try with_reducible rfl
  try simp only [Act.put, List.setIfInBounds_toArray, List.set_cons_zero, List.set_cons_succ]
  refine held_load 3 (some 8) 85 (.tmp 4) (by rfl) (by kernel_rfl) (by kernel_rfl) (by kernel_rfl) (w.heap.size) 85 #[.int .i64 (k : Int), .bool fw] (fun _ _ _ h => h) (by rfl) (fun _ h => h.2.2) _ Try.underlying85 rfl (by kernel_rfl) (by assumption) ?_
  try simp only [Act.put, List.setIfInBounds_toArray, List.set_cons_zero, List.set_cons_succ]
  refine held_two 0 4 (by kernel_rfl) ?_ ?_
  · refine op_yield 0 (some 5) (.load 3 (.tmp 1)) ?v1_1_5 (by rfl) (fun o ho => ?y1_1_5) ?r1_1_5
    case y1_1_5 => unfold execOp; simp only [ho]; go_simp; try with_reducible rfl
    refine ⟨by assumption, ?_⟩
    try simp only [Act.put, List.setIfInBounds_toArray, List.set_cons_zero, List.set_cons_succ]
    refine held_call 4 (some 9) 57 [(.tmp 6), (.tmp 7), (.tmp 8)] #[66, 42, 85] #[.slice A n c, .slice F n c2, .agg #[.int .i64 (k : Int), .bool fw]] (by rfl) (by rfl) (by kernel_rfl) Try.func57 (by rfl) (by rfl) ?_
    refine (HRm.out w0.drew HLw0.out.drew).mono ?_
    rintro e w2 ⟨rfl, hb2⟩
    have hq2 : Below w0.heap.size w0 w2 := (Below.refl _ _).drew.trans hb2
    have hH2 := HSa.out w2 hq2
    have cm2 := HMo.out w2 hq2
    have HB2 := Lib.hid (HLw0.out.trans (hq2.mono HLw0.out.size))
    clear hb2 hq2
    refine ⟨_, rfl, hH2, ?_⟩
    try simp only [Act.put, List.setIfInBounds_toArray, List.set_cons_zero, List.set_cons_succ]
    refine held_run 5 (some 10) (.call { callee := .builtin .min, args := #[(.tmp 5), (.tmp 9)], argTypes := #[3, 3] }) ?v1_1_7 (by rfl) (by kernel_rfl) (by kernel_rfl) (by kernel_rfl) (fun _ _ _ h => h) (fun o ho w hS => ?y1_1_7) (by assumption) ?r1_1_7
    case y1_1_7 => (try dsimp only at hS); unfold execOp; simp only [ho]; go_simp; try with_reducible rfl
    try simp only [Act.put, List.setIfInBounds_toArray, List.set_cons_zero, List.set_cons_succ]
    refine held_store 6 3 (.tmp 1) (.tmp 10) (by rfl) (by kernel_rfl) (g1) 0 (.int .i64 lo) (by rfl) (by rfl) _ _ (H1.out.below HB2.out H1.out.lt) (by kernel_rfl) (by simp) rfl rfl ?_
    intro w3 hx3 hon3
    have HX3 := Lib.hid hx3
    have HG3 : Hid (w.grownBy w3 (some g1)) := hide ⟨hon3.os.trans HB2.out.os, hon3.tape.trans HB2.out.tape, hon3.output.trans HB2.out.output, Nat.le_trans HB2.out.size (by rw [hon3.size]; exact Nat.le_refl _), fun k hk hne => (hon3.block k (fun e => hne (by rw [e]))).trans (HB2.out.block k hk)⟩
    have hne1 : w.heap.size ≠ g1 := fun e => by have := H1.out.lt; omega
    have hH3 : (fun W => W.cell? ⟨g2, 0, none⟩ = some (.slice A n c) ∧ W.cell? ⟨g3, 0, none⟩ = some (.slice F n c2) ∧ Blk W w.heap.size 85 #[.int .i64 (k : Int), .bool fw]) w3 := ⟨(hon3.blk (H2.out.below HB2.out H2.out.lt) (blk_apart H2.out H1.out (by decide))).cell 0, (hon3.blk (H3.out.below HB2.out H3.out.lt) (blk_apart H3.out H1.out (by decide))).cell 0, hon3.blk hH2.2.2 hne1⟩
    refine ⟨hH3, ?_⟩
    try simp only [Act.put, List.setIfInBounds_toArray, List.set_cons_zero, List.set_cons_succ]
    refine wpAnyH_done (by kernel_rfl) ?_ _
    try go_wp2_with fail
    go_end0
    exact ⟨rfl, HX3.out, HG3.out⟩
  · refine op_call 4 (some 9) 57 [(.tmp 6), (.tmp 7), (.tmp 8)] #[66, 42, 85] #[.slice A n c, .slice F n c2, .agg #[.int .i64 (k : Int), .bool fw]] (by rfl) (by rfl) Try.func57 (by rfl) (by rfl) ?_
    refine (HRm.out w0.drew HLw0.out.drew).mono ?_
    rintro e w2 ⟨rfl, hb2⟩
    have hq2 : Below w0.heap.size w0 w2 := (Below.refl _ _).drew.trans hb2
    have hH2 := HSa.out w2 hq2
    have cm2 := HMo.out w2 hq2
    have HB2 := Lib.hid (HLw0.out.trans (hq2.mono HLw0.out.size))
    clear hb2 hq2
    refine ⟨_, rfl, hH2, ?_⟩
    try simp only [Act.put, List.setIfInBounds_toArray, List.set_cons_zero, List.set_cons_succ]
    refine held_one 0 (by kernel_rfl) ?_
    refine op_yield 0 (some 5) (.load 3 (.tmp 1)) ?v1_1_10 (by rfl) (fun o ho => ?y1_1_10) ?r1_1_10
    case y1_1_10 => unfold execOp; simp only [ho]; go_simp; try with_reducible rfl
    refine ⟨by assumption, ?_⟩
    try simp only [Act.put, List.setIfInBounds_toArray, List.set_cons_zero, List.set_cons_succ]
    refine held_run 5 (some 10) (.call { callee := .builtin .min, args := #[(.tmp 5), (.tmp 9)], argTypes := #[3, 3] }) ?v1_1_11 (by rfl) (by kernel_rfl) (by kernel_rfl) (by kernel_rfl) (fun _ _ _ h => h) (fun o ho w hS => ?y1_1_11) (by assumption) ?r1_1_11
    case y1_1_11 => (try dsimp only at hS); unfold execOp; simp only [ho]; go_simp; try with_reducible rfl
    try simp only [Act.put, List.setIfInBounds_toArray, List.set_cons_zero, List.set_cons_succ]
    refine held_store 6 3 (.tmp 1) (.tmp 10) (by rfl) (by kernel_rfl) (g1) 0 (.int .i64 lo) (by rfl) (by rfl) _ _ (H1.out.below HB2.out H1.out.lt) (by kernel_rfl) (by simp) rfl rfl ?_
    intro w3 hx3 hon3
    have HX3 := Lib.hid hx3
    have HG3 : Hid (w.grownBy w3 (some g1)) := hide ⟨hon3.os.trans HB2.out.os, hon3.tape.trans HB2.out.tape, hon3.output.trans HB2.out.output, Nat.le_trans HB2.out.size (by rw [hon3.size]; exact Nat.le_refl _), fun k hk hne => (hon3.block k (fun e => hne (by rw [e]))).trans (HB2.out.block k hk)⟩
    have hne1 : w.heap.size ≠ g1 := fun e => by have := H1.out.lt; omega
    have hH3 : (fun W => W.cell? ⟨g2, 0, none⟩ = some (.slice A n c) ∧ W.cell? ⟨g3, 0, none⟩ = some (.slice F n c2) ∧ Blk W w.heap.size 85 #[.int .i64 (k : Int), .bool fw]) w3 := ⟨(hon3.blk (H2.out.below HB2.out H2.out.lt) (blk_apart H2.out H1.out (by decide))).cell 0, (hon3.blk (H3.out.below HB2.out H3.out.lt) (blk_apart H3.out H1.out (by decide))).cell 0, hon3.blk hH2.2.2 hne1⟩
    refine ⟨hH3, ?_⟩
    try simp only [Act.put, List.setIfInBounds_toArray, List.set_cons_zero, List.set_cons_succ]
    refine wpAnyH_done (by kernel_rfl) ?_ _
    try go_wp2_with fail
    go_end0
    exact ⟨rfl, HX3.out, HG3.out⟩
end Go.Proofs.Ytihmboibpjfohaa
