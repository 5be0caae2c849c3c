/-
  network.Deliver where nothing is delivered, walked.
  network.Deliver, walked.
  network.Deliver: a letter is delivered, walked.
-/
import Derived.Test.YtedeggjefnpjgaaDkA
namespace Go.Proofs.Ytedeggjefnpjgaa

section
open Go.RowKit

theorem res_cct {P : Program} {fn : Func} {p1 p2 u : Tmp} {t1 t2 : TypeId} (h : fn.results = #[.cell p1 t1, .cell p2 t2, .tmp u]) (tmps : Array Value) (w : World) (a1 a2 : Addr) (v1 v2 v : Value) (hp1 : tmps.getD p1 undef = .pointer (some a1)) (hp2 : tmps.getD p2 undef = .pointer (some a2)) (hu : tmps.getD u undef = v)
    (hl1 : (loadVar t1 a1).run P w = .ok v1 w) (hl2 : (loadVar t2 a2).run P w = .ok v2 w) : (results fn tmps).run P w = .ok (.tuple #[v1, v2, v]) w := by
  subst hu
  simp only [Array.getD_eq_getD_getElem?] at hp1 hp2
  simp [results, h, hp1, hp2, asAddr, Sem.run_bind, hl1, hl2]
/-- neither a network nor a letter is returned -/
def NdR (r : Int) (w : World) (e : Ending) (w' : World) : Prop := e = .returned (.tuple #[.agg #[.slice none 0 0, .slice none 0 0], .agg #[.int .i64 0, .int .i64 0, .slice none 0 0], .int .i64 r]) ∧ Below w.heap.size w w'
set_option maxRecDepth 100000 in
set_option maxHeartbeats 4000000 in
theorem deliver_no (vp : Value) (mA : Option Addr) (mn mc : Nat) (i : Int) (w : World) (hv : ∃ A n c, vp = .slice A n c) (hi : i < 0 ∨ (mn : Int) ≤ i) :
    Calls Try.prog 18 #[.agg #[vp, .slice mA mn mc], .int .i64 i] w (NdR 8 w) := by
  obtain ⟨pA, pn, pc, rfl⟩ := hv
  have HFin : Hid (∀ w', Below w.heap.size w w' → NdR 8 w (.returned (.tuple #[.agg #[.slice none 0 0, .slice none 0 0], .agg #[.int .i64 0, .int .i64 0, .slice none 0 0], .int .i64 8])) w') := fun w' h => ⟨rfl, h⟩
  generalize NdR 8 w = RR at *
  have HI := Lib.hid hi
  clear hi
  go_enter Try.func18, Try.ntmps18
  go_upto_region 1 with (fail)
  have hwz : (w.alloc (Obj.cells #[Value.slice pA pn pc, Value.slice mA mn mc] 27)).heap.size = w.heap.size + 1 := by simp
  obtain ⟨w0, hw0⟩ : ∃ W, w.alloc (Obj.cells #[Value.slice pA pn pc, Value.slice mA mn mc] 27) = W := ⟨_, rfl⟩
  rw [hw0] at hwz ⊢
  have HX0 : Hid (Blk w0 w.heap.size 27 #[.slice pA pn pc, .slice mA mn mc]) := hide (by rw [← hw0]; exact Blk.new w _ _)
  have HB0 : Hid (Below w.heap.size w w0) := hide (by rw [← hw0]; exact below_new w _)
  have hwz' : (w0.alloc (Obj.cells #[Value.slice none 0 0, Value.slice none 0 0] 27)).heap.size = w.heap.size + 2 := by simp [hwz]
  obtain ⟨wa, hwa⟩ : ∃ W, w0.alloc (Obj.cells #[Value.slice none 0 0, Value.slice none 0 0] 27) = W := ⟨_, rfl⟩
  rw [hwa] at hwz' ⊢
  have HYa : Hid (Blk wa (w.heap.size + 1) 27 #[.slice none 0 0, .slice none 0 0]) := hide (by rw [← hwa, ← hwz]; exact Blk.new w0 _ _)
  have hba : Below w0.heap.size w0 wa := by rw [← hwa]; exact below_new w0 _
  have HXa := Lib.hid (HX0.out.below hba (by omega))
  have HBa := Lib.hid (HB0.out.trans (hba.mono HB0.out.size))
  obtain ⟨w1, hw1⟩ : ∃ W, wa.alloc (Obj.cells #[Value.int .i64 0, Value.int .i64 0, Value.slice none 0 0] 58) = W := ⟨_, rfl⟩
  rw [hw1]
  have HZ1 : Hid (Blk w1 (w.heap.size + 2) 58 #[.int .i64 0, .int .i64 0, .slice none 0 0]) := hide (by rw [← hw1, ← hwz']; exact Blk.new wa _ _)
  have hb1 : Below wa.heap.size wa w1 := by rw [← hw1]; exact below_new wa _
  have HX1 := Lib.hid (HXa.out.below hb1 (by omega))
  have HY1 := Lib.hid (HYa.out.below hb1 (by omega))
  have HB1 := Lib.hid (HBa.out.trans (hb1.mono HBa.out.size))
  have hs1 : w.heap.size + 3 ≤ w1.heap.size := by have := HZ1.out.lt; omega
  clear hw0 hwa hw1 hba hb1 hwz hwz' HX0 HB0 HXa HYa HBa
  have n1 : w1.cell? ⟨w.heap.size, 1, none⟩ = some (.slice mA mn mc) := HX1.out.cell 1
  by_cases hneg : i < 0
  · go_wp2_with
      (first
       | (refine wpList_store_blk rfl 27 (.tmp 4) (.tmp 18) rfl (w.heap.size + 1) #[.slice none 0 0, .slice none 0 0] rfl rfl _ _ HY1.out (by kernel_rfl) rfl (by simp [Value.oneCell']) ?_
          intro w8 hx8 hon8
          have HX8 := Lib.hid hx8
          have HZ8 := Lib.hid (hon8.blk HZ1.out (by omega))
          have HB8 : Hid (Below w.heap.size w w8) := hide (hon8.below HB1.out (by omega))
          clear hx8 hon8)
       | (refine wpList_store_blk rfl 58 (.tmp 5) (.tmp 19) rfl (w.heap.size + 2) #[.int .i64 0, .int .i64 0, .slice none 0 0] rfl rfl _ _ HZ8.out (by kernel_rfl) rfl (by simp [Value.oneCell']) ?_
          intro w9 hz9 hon9
          have HZ9 := Lib.hid hz9
          have HX9 := Lib.hid (hon9.blk HX8.out (by omega))
          have HB9 : Hid (Below w.heap.size w w9) := hide (hon9.below HB8.out (by omega))
          clear hz9 hon9))
    refine bodyPost_ret (res_cct rfl _ _ _ _ _ _ _ rfl rfl rfl (load_blk HX9.out Try.underlying27 rfl (by kernel_rfl)) (load_blk HZ9.out Try.underlying58 rfl (by kernel_rfl))) rfl ?_
    exact HFin.out _ HB9.out
  · have hge : i ≥ (mn : Int) := by rcases HI.out with h | h; exact absurd h hneg; exact h
    go_wp2_with
      (first
       | (refine wpList_store_blk rfl 27 (.tmp 4) (.tmp 18) rfl (w.heap.size + 1) #[.slice none 0 0, .slice none 0 0] rfl rfl _ _ HY1.out (by kernel_rfl) rfl (by simp [Value.oneCell']) ?_
          intro w8 hx8 hon8
          have HX8 := Lib.hid hx8
          have HZ8 := Lib.hid (hon8.blk HZ1.out (by omega))
          have HB8 : Hid (Below w.heap.size w w8) := hide (hon8.below HB1.out (by omega))
          clear hx8 hon8)
       | (refine wpList_store_blk rfl 58 (.tmp 5) (.tmp 19) rfl (w.heap.size + 2) #[.int .i64 0, .int .i64 0, .slice none 0 0] rfl rfl _ _ HZ8.out (by kernel_rfl) rfl (by simp [Value.oneCell']) ?_
          intro w9 hz9 hon9
          have HZ9 := Lib.hid hz9
          have HX9 := Lib.hid (hon9.blk HX8.out (by omega))
          have HB9 : Hid (Below w.heap.size w w9) := hide (hon9.below HB8.out (by omega))
          clear hz9 hon9))
    refine bodyPost_ret (res_cct rfl _ _ _ _ _ _ _ rfl rfl rfl (load_blk HX9.out Try.underlying27 rfl (by kernel_rfl)) (load_blk HZ9.out Try.underlying58 rfl (by kernel_rfl))) rfl ?_
    exact HFin.out _ HB9.out
end

section
open Go.RowKit

set_option maxRecDepth 100000 in
set_option maxHeartbeats 4000000 in
theorem deliver_lock (pA : Option Addr) (pc : Nat) (mA : Option Addr) (mn mc : Nat) (i : Nat) (a b : Nat) (bd : List UInt8) (ps : List Int) (ms : List Lt) (w : World) (hp : Ints w w.heap.size pA 2 ps) (hm : Lts w w.heap.size mA mn ms) (hi : i < mn) (hq : ms.getD i lt0 = ⟨(a : Int), (b : Int), bd⟩) (ha : a < 2) (hb : b < 2) (hne : (ps.getD a 0 == ps.getD b 0) = false) :
    Calls Try.prog 18 #[.agg #[.slice pA 2 pc, .slice mA mn mc], .int .i64 i] w (NdR 13 w) := by
  have HCan : Hid (∀ W, Below w.heap.size w W → Calls Try.prog 14 #[.agg #[.slice pA 2 pc, .slice mA mn mc], .int .i64 (a : Int), .int .i64 (b : Int)] W (BoR false W)) := fun W h => can_any pA pc _ a b ps false W ha hb (hp.now h) ⟨mA, mn, mc, rfl⟩ hne
  have HFin : Hid (∀ w', Below w.heap.size w w' → NdR 13 w (.returned (.tuple #[.agg #[.slice none 0 0, .slice none 0 0], .agg #[.int .i64 0, .int .i64 0, .slice none 0 0], .int .i64 13])) w') := fun w' h => ⟨rfl, h⟩
  generalize NdR 13 w = RR at *
  obtain ⟨ad, z, rfl, hab0, hcl, hz⟩ := hm.at_ hi
  have hab : ad.block < w.heap.size := hab0
  rw [hq] at hcl
  have HC0 : Hid (w.cell? (ad.add (i * 3)) = some (.int .i64 (a : Int))) := hide (by have := hcl 0 _ rfl; rw [add_of_add, Nat.add_zero] at this; exact this)
  have HC1 : Hid (w.cell? ⟨(ad.add (i * 3)).block, (ad.add (i * 3)).off + 1, none⟩ = some (.int .i64 (b : Int))) := hide (hcl 1 _ rfl)
  clear hp hm hne hcl hz hab0
  go_enter Try.func18, Try.ntmps18
  go_upto_region 1 with (fail)
  have hwz : (w.alloc (Obj.cells #[Value.slice pA 2 pc, Value.slice (some ad) mn mc] 27)).heap.size = w.heap.size + 1 := by simp
  obtain ⟨w0, hw0⟩ : ∃ W, w.alloc (Obj.cells #[Value.slice pA 2 pc, Value.slice (some ad) mn mc] 27) = W := ⟨_, rfl⟩
  rw [hw0] at hwz ⊢
  have HX0 : Hid (Blk w0 w.heap.size 27 #[.slice pA 2 pc, .slice (some ad) mn mc]) := hide (by rw [← hw0]; exact Blk.new w _ _)
  have HB0 : Hid (Below w.heap.size w w0) := hide (by rw [← hw0]; exact below_new w _)
  have hwz' : (w0.alloc (Obj.cells #[Value.slice none 0 0, Value.slice none 0 0] 27)).heap.size = w.heap.size + 2 := by simp [hwz]
  obtain ⟨wa, hwa⟩ : ∃ W, w0.alloc (Obj.cells #[Value.slice none 0 0, Value.slice none 0 0] 27) = W := ⟨_, rfl⟩
  rw [hwa] at hwz' ⊢
  have HYa : Hid (Blk wa (w.heap.size + 1) 27 #[.slice none 0 0, .slice none 0 0]) := hide (by rw [← hwa, ← hwz]; exact Blk.new w0 _ _)
  have hba : Below w0.heap.size w0 wa := by rw [← hwa]; exact below_new w0 _
  have HXa := Lib.hid (HX0.out.below hba (by omega))
  have HBa := Lib.hid (HB0.out.trans (hba.mono HB0.out.size))
  obtain ⟨w1, hw1⟩ : ∃ W, wa.alloc (Obj.cells #[Value.int .i64 0, Value.int .i64 0, Value.slice none 0 0] 58) = W := ⟨_, rfl⟩
  rw [hw1]
  have HZ1 : Hid (Blk w1 (w.heap.size + 2) 58 #[.int .i64 0, .int .i64 0, .slice none 0 0]) := hide (by rw [← hw1, ← hwz']; exact Blk.new wa _ _)
  have hb1 : Below wa.heap.size wa w1 := by rw [← hw1]; exact below_new wa _
  have HX1 := Lib.hid (HXa.out.below hb1 (by omega))
  have HY1 := Lib.hid (HYa.out.below hb1 (by omega))
  have HB1 := Lib.hid (HBa.out.trans (hb1.mono HBa.out.size))
  have hs1 : w.heap.size + 3 ≤ w1.heap.size := by have := HZ1.out.lt; omega
  clear hw0 hwa hw1 hba hb1 hwz hwz' HX0 HB0 HXa HYa HBa
  have n1 : w1.cell? ⟨w.heap.size, 1, none⟩ = some (.slice (some ad) mn mc) := HX1.out.cell 1
  have hd0 : ¬ (i : Int) < 0 := by omega
  have hd1 : ¬ (i : Int) ≥ (mn : Int) := by omega
  go_upto_region 3 with (fail)
  have HX1d : Hid (Blk w1.drew w.heap.size 27 #[.slice pA 2 pc, .slice (some ad) mn mc]) := HX1
  have HY1d : Hid (Blk w1.drew (w.heap.size + 1) 27 #[.slice none 0 0, .slice none 0 0]) := HY1
  have HZ1d : Hid (Blk w1.drew (w.heap.size + 2) 58 #[.int .i64 0, .int .i64 0, .slice none 0 0]) := HZ1
  have HB1d : Hid (Below w.heap.size w w1.drew) := hide HB1.out.drew
  have hs1d : w.heap.size + 3 ≤ w1.drew.heap.size := hs1
  refine wp_region_held_drew (S := fun W => Blk W w.heap.size 27 #[.slice pA 2 pc, .slice (some ad) mn mc] ∧ W.cell? ⟨w.heap.size, 1, none⟩ = some (.slice (some ad) mn mc) ∧ W.cell? (ad.add (i * 3)) = some (.int .i64 (a : Int)) ∧ W.cell? ⟨(ad.add (i * 3)).block, (ad.add (i * 3)).off + 1, none⟩ = some (.int .i64 (b : Int))) (by kernel_rfl) (⟨HX1d.out, HX1d.out.cell 1, (HB1d.out.cell (by rw [block_of_add]; exact hab)).trans HC0.out, (HB1d.out.cell (by show (ad.add (i * 3)).block < _; rw [block_of_add]; exact hab)).trans HC1.out⟩) (fun hHeld => ?_)
  refine held_load 0 (some 20) 27 (.tmp 2) (by rfl) (by kernel_rfl) (by kernel_rfl) (by kernel_rfl) (w.heap.size) 27 #[.slice pA 2 pc, .slice (some ad) mn mc] (fun _ _ _ h => h) (by rfl) (fun _ h => h.1) _ Try.underlying27 rfl (by kernel_rfl) (by assumption) ?_
  try simp only [Act.put, List.setIfInBounds_toArray, List.set_cons_zero, List.set_cons_succ]
  refine held_run 1 (some 21) (.fieldAddr 27 (.tmp 2) 1) ?v3_1_3 (by rfl) (by kernel_rfl) (by kernel_rfl) (by kernel_rfl) (fun _ _ _ h => h) (fun o ho w hS => ?y3_1_3) (by assumption) ?r3_1_3
  case y3_1_3 => (try dsimp only at hS); unfold execOp; simp only [ho]; go_simp; try with_reducible rfl
  try simp only [Act.put, List.setIfInBounds_toArray, List.set_cons_zero, List.set_cons_succ]
  refine held_run 2 (some 22) (.load 25 (.tmp 21)) ?v3_1_4 (by rfl) (by kernel_rfl) (by kernel_rfl) (by kernel_rfl) (fun _ _ _ h => h) (fun o ho w hS => ?y3_1_4) (by assumption) ?r3_1_4
  case y3_1_4 => (try dsimp only at hS); unfold execOp; simp only [ho]; go_simp; try with_reducible rfl
  try simp only [Act.put, List.setIfInBounds_toArray, List.set_cons_zero, List.set_cons_succ]
  refine held_run 3 (some 23) (.move (.tmp 1)) ?v3_1_5 (by rfl) (by kernel_rfl) (by kernel_rfl) (by kernel_rfl) (fun _ _ _ h => h) (fun o ho w hS => ?y3_1_5) (by assumption) ?r3_1_5
  case y3_1_5 => (try dsimp only at hS); unfold execOp; simp only [ho]; go_simp; try with_reducible rfl
  try simp only [Act.put, List.setIfInBounds_toArray, List.set_cons_zero, List.set_cons_succ]
  refine held_run 4 (some 24) (.indexAddr 25 (.tmp 22) (.tmp 23)) ?v3_1_6 (by rfl) (by kernel_rfl) (by kernel_rfl) (by kernel_rfl) (fun _ _ _ h => h) (fun o ho w hS => ?y3_1_6) (by assumption) ?r3_1_6
  case y3_1_6 => (try dsimp only at hS); unfold execOp; simp only [ho]; go_simp; try with_reducible rfl
  try simp only [Act.put, List.setIfInBounds_toArray, List.set_cons_zero, List.set_cons_succ]
  refine held_run 5 (some 25) (.fieldAddr 58 (.tmp 24) 0) ?v3_1_7 (by rfl) (by kernel_rfl) (by kernel_rfl) (by kernel_rfl) (fun _ _ _ h => h) (fun o ho w hS => ?y3_1_7) (by assumption) ?r3_1_7
  case y3_1_7 => (try dsimp only at hS); unfold execOp; simp only [ho]; go_simp; try with_reducible rfl
  try simp only [Act.put, List.setIfInBounds_toArray, List.set_cons_zero, List.set_cons_succ]
  refine held_run 6 (some 26) (.load 3 (.tmp 25)) ?v3_1_8 (by rfl) (by kernel_rfl) (by kernel_rfl) (by kernel_rfl) (fun _ _ _ h => h) (fun o ho w hS => ?y3_1_8) (by assumption) ?r3_1_8
  case y3_1_8 => (try dsimp only at hS); unfold execOp; simp only [ho]; go_simp; try with_reducible rfl
  try simp only [Act.put, List.setIfInBounds_toArray, List.set_cons_zero, List.set_cons_succ]
  refine held_run 7 (some 27) (.fieldAddr 27 (.tmp 2) 1) ?v3_1_9 (by rfl) (by kernel_rfl) (by kernel_rfl) (by kernel_rfl) (fun _ _ _ h => h) (fun o ho w hS => ?y3_1_9) (by assumption) ?r3_1_9
  case y3_1_9 => (try dsimp only at hS); unfold execOp; simp only [ho]; go_simp; try with_reducible rfl
  try simp only [Act.put, List.setIfInBounds_toArray, List.set_cons_zero, List.set_cons_succ]
  refine held_run 8 (some 28) (.load 25 (.tmp 27)) ?v3_1_10 (by rfl) (by kernel_rfl) (by kernel_rfl) (by kernel_rfl) (fun _ _ _ h => h) (fun o ho w hS => ?y3_1_10) (by assumption) ?r3_1_10
  case y3_1_10 => (try dsimp only at hS); unfold execOp; simp only [ho]; go_simp; try with_reducible rfl
  try simp only [Act.put, List.setIfInBounds_toArray, List.set_cons_zero, List.set_cons_succ]
  refine held_run 9 (some 29) (.move (.tmp 1)) ?v3_1_11 (by rfl) (by kernel_rfl) (by kernel_rfl) (by kernel_rfl) (fun _ _ _ h => h) (fun o ho w hS => ?y3_1_11) (by assumption) ?r3_1_11
  case y3_1_11 => (try dsimp only at hS); unfold execOp; simp only [ho]; go_simp; try with_reducible rfl
  try simp only [Act.put, List.setIfInBounds_toArray, List.set_cons_zero, List.set_cons_succ]
  refine held_run 10 (some 30) (.indexAddr 25 (.tmp 28) (.tmp 29)) ?v3_1_12 (by rfl) (by kernel_rfl) (by kernel_rfl) (by kernel_rfl) (fun _ _ _ h => h) (fun o ho w hS => ?y3_1_12) (by assumption) ?r3_1_12
  case y3_1_12 => (try dsimp only at hS); unfold execOp; simp only [ho]; go_simp; try with_reducible rfl
  try simp only [Act.put, List.setIfInBounds_toArray, List.set_cons_zero, List.set_cons_succ]
  refine held_run 11 (some 31) (.fieldAddr 58 (.tmp 30) 1) ?v3_1_13 (by rfl) (by kernel_rfl) (by kernel_rfl) (by kernel_rfl) (fun _ _ _ h => h) (fun o ho w hS => ?y3_1_13) (by assumption) ?r3_1_13
  case y3_1_13 => (try dsimp only at hS); unfold execOp; simp only [ho]; go_simp; try with_reducible rfl
  try simp only [Act.put, List.setIfInBounds_toArray, List.set_cons_zero, List.set_cons_succ]
  refine held_run 12 (some 32) (.load 3 (.tmp 31)) ?v3_1_14 (by rfl) (by kernel_rfl) (by kernel_rfl) (by kernel_rfl) (fun _ _ _ h => h) (fun o ho w hS => ?y3_1_14) (by assumption) ?r3_1_14
  case y3_1_14 => (try dsimp only at hS); unfold execOp; simp only [ho]; go_simp; try with_reducible rfl
  try simp only [Act.put, List.setIfInBounds_toArray, List.set_cons_zero, List.set_cons_succ]
  refine held_call 13 (some 33) 14 [(.tmp 20), (.tmp 26), (.tmp 32)] #[27, 3, 3] #[.agg #[.slice pA 2 pc, .slice (some ad) mn mc], .int .i64 (a : Int), .int .i64 (b : Int)] (by rfl) (by rfl) (by kernel_rfl) Try.func14 (by rfl) (by rfl) ?_
  refine (HCan.out w1.drew HB1d.out).mono ?_
  rintro e w2 ⟨rfl, hb2⟩
  have HB2 : Hid (Below w.heap.size w w2) := hide (HB1d.out.trans (hb2.mono HB1d.out.size))
  have hX2 := HX1d.out.below hb2 (by omega)
  have HX2 := Lib.hid hX2
  have HY2 := Lib.hid (HY1d.out.below hb2 (by omega))
  have HZ2 := Lib.hid (HZ1d.out.below hb2 (by omega))
  have hs2 : w.heap.size + 3 ≤ w2.heap.size := Nat.le_trans hs1d hb2.size
  clear hb2
  have hH2 : Blk w2 w.heap.size 27 #[.slice pA 2 pc, .slice (some ad) mn mc] ∧ w2.cell? ⟨w.heap.size, 1, none⟩ = some (.slice (some ad) mn mc) ∧ w2.cell? (ad.add (i * 3)) = some (.int .i64 (a : Int)) ∧ w2.cell? ⟨(ad.add (i * 3)).block, (ad.add (i * 3)).off + 1, none⟩ = some (.int .i64 (b : Int)) := ⟨hX2, hX2.cell 1, (HB2.out.cell (by rw [block_of_add]; exact hab)).trans HC0.out, (HB2.out.cell (by show (ad.add (i * 3)).block < _; rw [block_of_add]; exact hab)).trans HC1.out⟩
  refine ⟨_, rfl, hH2, ?_⟩
  try simp only [Act.put, List.setIfInBounds_toArray, List.set_cons_zero, List.set_cons_succ]
  refine held_run 14 (some 34) (.unOp .not 4 (.tmp 33)) ?v3_1_16 (by rfl) (by kernel_rfl) (by kernel_rfl) (by kernel_rfl) (fun _ _ _ h => h) (fun o ho w hS => ?y3_1_16) (by assumption) ?r3_1_16
  case y3_1_16 => (try dsimp only at hS); unfold execOp; simp only [ho]; go_simp; try with_reducible rfl
  try simp only [Act.put, List.setIfInBounds_toArray, List.set_cons_zero, List.set_cons_succ]
  refine wpAnyH_done (by kernel_rfl) ?_ _
  go_wp2_with
    (first
     | (refine wpList_store_blk rfl 27 (.tmp 4) (.tmp 35) rfl (w.heap.size + 1) #[.slice none 0 0, .slice none 0 0] rfl rfl _ _ HY2.out (by kernel_rfl) rfl (by simp [Value.oneCell']) ?_
        intro w8 hx8 hon8
        have HX8 := Lib.hid hx8
        have HZ8 := Lib.hid (hon8.blk HZ2.out (by omega))
        have HB8 : Hid (Below w.heap.size w w8) := hide (hon8.below HB2.out (by omega))
        clear hx8 hon8)
     | (refine wpList_store_blk rfl 58 (.tmp 5) (.tmp 36) rfl (w.heap.size + 2) #[.int .i64 0, .int .i64 0, .slice none 0 0] rfl rfl _ _ HZ8.out (by kernel_rfl) rfl (by simp [Value.oneCell']) ?_
        intro w9 hz9 hon9
        have HZ9 := Lib.hid hz9
        have HX9 := Lib.hid (hon9.blk HX8.out (by omega))
        have HB9 : Hid (Below w.heap.size w w9) := hide (hon9.below HB8.out (by omega))
        clear hz9 hon9))
  refine bodyPost_ret (res_cct rfl _ _ _ _ _ _ _ rfl rfl rfl (load_blk HX9.out Try.underlying27 rfl (by kernel_rfl)) (load_blk HZ9.out Try.underlying58 rfl (by kernel_rfl))) rfl ?_
  exact HFin.out _ HB9.out
end

section
open Go.RowKit

theorem OwnLs.at_ {w : World} {base n c k : Nat} {v : Value} {A : Option Addr} {l : List Lt} (h : OwnLs w base v l) (hv : v = .slice A n c) (hn : l.length = n) (hk : k < n) : ∃ (ad : Addr) (z : Value), A = some ad ∧ ad.block < w.heap.size ∧ (∀ j u, ((l.getD k lt0).cells z)[j]? = some u → w.cell? ((ad.add (k * 3)).add j) = some u) ∧ OwnB w base z (l.getD k lt0).bd := by
  subst hv hn
  obtain ⟨zs, h1, h2, h4⟩ := h
  obtain ⟨A', c', e, _, _, h3⟩ := own_open h2
  injection e with e1 e2 e3
  subst e1
  obtain ⟨ad, e, hb, hc⟩ := h3.2 (by omega)
  have e1 : l.getD k lt0 = l[k]'hk := by simp [List.getElem?_eq_getElem hk]
  rw [e1]
  refine ⟨ad, zs[k]'(by omega), e, hb, fun j u hu => ?_, h4 k _ _ (List.getElem?_eq_getElem hk) (List.getElem?_eq_getElem (by omega))⟩
  rw [add_of_add]
  refine hc _ u ?_
  have hj : j < 3 := by
    have := (List.getElem?_eq_some_iff.1 hu).1
    simpa [Lt.cells] using this
  rw [flat_at 3 _ (zipL_len l zs) k j hj, List.getElem?_zipWith, List.getElem?_eq_getElem hk, List.getElem?_eq_getElem (show k < zs.length by omega)]
  exact hu
/-- the letter i is delivered -/
def NdV (ps : List Int) (ms : List Lt) (fr t : Int) (bd : List UInt8) (w : World) (e : Ending) (w' : World) : Prop := ∃ vp vm vb, e = .returned (.tuple #[.agg #[vp, vm], .agg #[.int .i64 fr, .int .i64 t, vb], .int .i64 0]) ∧ NetO w' vp vm ps ms ∧ OwnB w' 0 vb bd ∧ Below w.heap.size w w'
set_option maxRecDepth 100000 in
set_option maxHeartbeats 8000000 in
theorem deliver_any (pA : Option Addr) (pc : Nat) (mA : Option Addr) (mn mc : Nat) (i : Nat) (a b : Nat) (bd : List UInt8) (ps : List Int) (ms : List Lt) (w : World) (hp : Ints w w.heap.size pA 2 ps) (hm : Lts w w.heap.size mA mn ms) (hn : mn ≤ 256) (hbl : ∀ m ∈ ms, m.bd.length ≤ 2000) (hi : i < mn) (hq : ms.getD i lt0 = ⟨(a : Int), (b : Int), bd⟩) (ha : a < 2) (hb : b < 2) (hne : (ps.getD a 0 == ps.getD b 0) = true) :
    Calls Try.prog 18 #[.agg #[.slice pA 2 pc, .slice mA mn mc], .int .i64 i] w (NdV ps (ms.eraseIdx i) (a : Int) (b : Int) bd w) := by
  have HCan : Hid (∀ W, Below w.heap.size w W → Calls Try.prog 14 #[.agg #[.slice pA 2 pc, .slice mA mn mc], .int .i64 (a : Int), .int .i64 (b : Int)] W (BoR true W)) := fun W h => can_any pA pc _ a b ps true W ha hb (hp.now h) ⟨mA, mn, mc, rfl⟩ hne
  have HCo : Hid (∀ W, Below w.heap.size w W → Calls Try.prog 25 #[.agg #[.slice pA 2 pc, .slice mA mn mc]] W (CopR ps ms W)) := fun W h => ncopied_any pA pc mA mn mc ps ms W (hp.now h) (hm.now h) hn hbl
  have HMl := Lib.hid hm.len
  have HFin : Hid (∀ vp vm vb w', NetO w' vp vm ps (ms.eraseIdx i) → OwnB w' 0 vb bd → Below w.heap.size w w' → NdV ps (ms.eraseIdx i) (a : Int) (b : Int) bd w (.returned (.tuple #[.agg #[vp, vm], .agg #[.int .i64 (a : Int), .int .i64 (b : Int), vb], .int .i64 0])) w') := fun vp vm vb w' h1 h2 h3 => ⟨vp, vm, vb, rfl, h1, h2, h3⟩
  generalize NdV ps (ms.eraseIdx i) (a : Int) (b : Int) bd w = RR at *
  obtain ⟨ad, z, rfl, hab0, hcl, hz⟩ := hm.at_ hi
  have hab : ad.block < w.heap.size := hab0
  rw [hq] at hcl
  have HC0 : Hid (w.cell? (ad.add (i * 3)) = some (.int .i64 (a : Int))) := hide (by have := hcl 0 _ rfl; rw [add_of_add, Nat.add_zero] at this; exact this)
  have HC1 : Hid (w.cell? ⟨(ad.add (i * 3)).block, (ad.add (i * 3)).off + 1, none⟩ = some (.int .i64 (b : Int))) := hide (hcl 1 _ rfl)
  clear hp hm hne hcl hz hab0 hbl
  go_enter Try.func18, Try.ntmps18
  go_upto_region 1 with (fail)
  have hwz : (w.alloc (Obj.cells #[Value.slice pA 2 pc, Value.slice (some ad) mn mc] 27)).heap.size = w.heap.size + 1 := by simp
  obtain ⟨w0, hw0⟩ : ∃ W, w.alloc (Obj.cells #[Value.slice pA 2 pc, Value.slice (some ad) mn mc] 27) = W := ⟨_, rfl⟩
  rw [hw0] at hwz ⊢
  have HX0 : Hid (Blk w0 w.heap.size 27 #[.slice pA 2 pc, .slice (some ad) mn mc]) := hide (by rw [← hw0]; exact Blk.new w _ _)
  have HB0 : Hid (Below w.heap.size w w0) := hide (by rw [← hw0]; exact below_new w _)
  have hwz' : (w0.alloc (Obj.cells #[Value.slice none 0 0, Value.slice none 0 0] 27)).heap.size = w.heap.size + 2 := by simp [hwz]
  obtain ⟨wa, hwa⟩ : ∃ W, w0.alloc (Obj.cells #[Value.slice none 0 0, Value.slice none 0 0] 27) = W := ⟨_, rfl⟩
  rw [hwa] at hwz' ⊢
  have HYa : Hid (Blk wa (w.heap.size + 1) 27 #[.slice none 0 0, .slice none 0 0]) := hide (by rw [← hwa, ← hwz]; exact Blk.new w0 _ _)
  have hba : Below w0.heap.size w0 wa := by rw [← hwa]; exact below_new w0 _
  have HXa := Lib.hid (HX0.out.below hba (by omega))
  have HBa := Lib.hid (HB0.out.trans (hba.mono HB0.out.size))
  obtain ⟨w1, hw1⟩ : ∃ W, wa.alloc (Obj.cells #[Value.int .i64 0, Value.int .i64 0, Value.slice none 0 0] 58) = W := ⟨_, rfl⟩
  rw [hw1]
  have HZ1 : Hid (Blk w1 (w.heap.size + 2) 58 #[.int .i64 0, .int .i64 0, .slice none 0 0]) := hide (by rw [← hw1, ← hwz']; exact Blk.new wa _ _)
  have hb1 : Below wa.heap.size wa w1 := by rw [← hw1]; exact below_new wa _
  have HX1 := Lib.hid (HXa.out.below hb1 (by omega))
  have HY1 := Lib.hid (HYa.out.below hb1 (by omega))
  have HB1 := Lib.hid (HBa.out.trans (hb1.mono HBa.out.size))
  have hs1 : w.heap.size + 3 ≤ w1.heap.size := by have := HZ1.out.lt; omega
  clear hw0 hwa hw1 hba hb1 hwz hwz' HX0 HB0 HXa HYa HBa
  have n1 : w1.cell? ⟨w.heap.size, 1, none⟩ = some (.slice (some ad) mn mc) := HX1.out.cell 1
  have hd0 : ¬ (i : Int) < 0 := by omega
  have hd1 : ¬ (i : Int) ≥ (mn : Int) := by omega
  go_upto_region 3 with (fail)
  have HX1d : Hid (Blk w1.drew w.heap.size 27 #[.slice pA 2 pc, .slice (some ad) mn mc]) := HX1
  have HY1d : Hid (Blk w1.drew (w.heap.size + 1) 27 #[.slice none 0 0, .slice none 0 0]) := HY1
  have HZ1d : Hid (Blk w1.drew (w.heap.size + 2) 58 #[.int .i64 0, .int .i64 0, .slice none 0 0]) := HZ1
  have HB1d : Hid (Below w.heap.size w w1.drew) := hide HB1.out.drew
  have hs1d : w.heap.size + 3 ≤ w1.drew.heap.size := hs1
  refine wp_region_held_drew (S := fun W => Blk W w.heap.size 27 #[.slice pA 2 pc, .slice (some ad) mn mc] ∧ W.cell? ⟨w.heap.size, 1, none⟩ = some (.slice (some ad) mn mc) ∧ W.cell? (ad.add (i * 3)) = some (.int .i64 (a : Int)) ∧ W.cell? ⟨(ad.add (i * 3)).block, (ad.add (i * 3)).off + 1, none⟩ = some (.int .i64 (b : Int))) (by kernel_rfl) (⟨HX1d.out, HX1d.out.cell 1, (HB1d.out.cell (by rw [block_of_add]; exact hab)).trans HC0.out, (HB1d.out.cell (by show (ad.add (i * 3)).block < _; rw [block_of_add]; exact hab)).trans HC1.out⟩) (fun hHeld => ?_)
  refine held_load 0 (some 20) 27 (.tmp 2) (by rfl) (by kernel_rfl) (by kernel_rfl) (by kernel_rfl) (w.heap.size) 27 #[.slice pA 2 pc, .slice (some ad) mn mc] (fun _ _ _ h => h) (by rfl) (fun _ h => h.1) _ Try.underlying27 rfl (by kernel_rfl) (by assumption) ?_
  try simp only [Act.put, List.setIfInBounds_toArray, List.set_cons_zero, List.set_cons_succ]
  refine held_run 1 (some 21) (.fieldAddr 27 (.tmp 2) 1) ?v3_17_19 (by rfl) (by kernel_rfl) (by kernel_rfl) (by kernel_rfl) (fun _ _ _ h => h) (fun o ho w hS => ?y3_17_19) (by assumption) ?r3_17_19
  case y3_17_19 => (try dsimp only at hS); unfold execOp; simp only [ho]; go_simp; try with_reducible rfl
  try simp only [Act.put, List.setIfInBounds_toArray, List.set_cons_zero, List.set_cons_succ]
  refine held_run 2 (some 22) (.load 25 (.tmp 21)) ?v3_17_20 (by rfl) (by kernel_rfl) (by kernel_rfl) (by kernel_rfl) (fun _ _ _ h => h) (fun o ho w hS => ?y3_17_20) (by assumption) ?r3_17_20
  case y3_17_20 => (try dsimp only at hS); unfold execOp; simp only [ho]; go_simp; try with_reducible rfl
  try simp only [Act.put, List.setIfInBounds_toArray, List.set_cons_zero, List.set_cons_succ]
  refine held_run 3 (some 23) (.move (.tmp 1)) ?v3_17_21 (by rfl) (by kernel_rfl) (by kernel_rfl) (by kernel_rfl) (fun _ _ _ h => h) (fun o ho w hS => ?y3_17_21) (by assumption) ?r3_17_21
  case y3_17_21 => (try dsimp only at hS); unfold execOp; simp only [ho]; go_simp; try with_reducible rfl
  try simp only [Act.put, List.setIfInBounds_toArray, List.set_cons_zero, List.set_cons_succ]
  refine held_run 4 (some 24) (.indexAddr 25 (.tmp 22) (.tmp 23)) ?v3_17_22 (by rfl) (by kernel_rfl) (by kernel_rfl) (by kernel_rfl) (fun _ _ _ h => h) (fun o ho w hS => ?y3_17_22) (by assumption) ?r3_17_22
  case y3_17_22 => (try dsimp only at hS); unfold execOp; simp only [ho]; go_simp; try with_reducible rfl
  try simp only [Act.put, List.setIfInBounds_toArray, List.set_cons_zero, List.set_cons_succ]
  refine held_run 5 (some 25) (.fieldAddr 58 (.tmp 24) 0) ?v3_17_23 (by rfl) (by kernel_rfl) (by kernel_rfl) (by kernel_rfl) (fun _ _ _ h => h) (fun o ho w hS => ?y3_17_23) (by assumption) ?r3_17_23
  case y3_17_23 => (try dsimp only at hS); unfold execOp; simp only [ho]; go_simp; try with_reducible rfl
  try simp only [Act.put, List.setIfInBounds_toArray, List.set_cons_zero, List.set_cons_succ]
  refine held_run 6 (some 26) (.load 3 (.tmp 25)) ?v3_17_24 (by rfl) (by kernel_rfl) (by kernel_rfl) (by kernel_rfl) (fun _ _ _ h => h) (fun o ho w hS => ?y3_17_24) (by assumption) ?r3_17_24
  case y3_17_24 => (try dsimp only at hS); unfold execOp; simp only [ho]; go_simp; try with_reducible rfl
  try simp only [Act.put, List.setIfInBounds_toArray, List.set_cons_zero, List.set_cons_succ]
  refine held_run 7 (some 27) (.fieldAddr 27 (.tmp 2) 1) ?v3_17_25 (by rfl) (by kernel_rfl) (by kernel_rfl) (by kernel_rfl) (fun _ _ _ h => h) (fun o ho w hS => ?y3_17_25) (by assumption) ?r3_17_25
  case y3_17_25 => (try dsimp only at hS); unfold execOp; simp only [ho]; go_simp; try with_reducible rfl
  try simp only [Act.put, List.setIfInBounds_toArray, List.set_cons_zero, List.set_cons_succ]
  refine held_run 8 (some 28) (.load 25 (.tmp 27)) ?v3_17_26 (by rfl) (by kernel_rfl) (by kernel_rfl) (by kernel_rfl) (fun _ _ _ h => h) (fun o ho w hS => ?y3_17_26) (by assumption) ?r3_17_26
  case y3_17_26 => (try dsimp only at hS); unfold execOp; simp only [ho]; go_simp; try with_reducible rfl
  try simp only [Act.put, List.setIfInBounds_toArray, List.set_cons_zero, List.set_cons_succ]
  refine held_run 9 (some 29) (.move (.tmp 1)) ?v3_17_27 (by rfl) (by kernel_rfl) (by kernel_rfl) (by kernel_rfl) (fun _ _ _ h => h) (fun o ho w hS => ?y3_17_27) (by assumption) ?r3_17_27
  case y3_17_27 => (try dsimp only at hS); unfold execOp; simp only [ho]; go_simp; try with_reducible rfl
  try simp only [Act.put, List.setIfInBounds_toArray, List.set_cons_zero, List.set_cons_succ]
  refine held_run 10 (some 30) (.indexAddr 25 (.tmp 28) (.tmp 29)) ?v3_17_28 (by rfl) (by kernel_rfl) (by kernel_rfl) (by kernel_rfl) (fun _ _ _ h => h) (fun o ho w hS => ?y3_17_28) (by assumption) ?r3_17_28
  case y3_17_28 => (try dsimp only at hS); unfold execOp; simp only [ho]; go_simp; try with_reducible rfl
  try simp only [Act.put, List.setIfInBounds_toArray, List.set_cons_zero, List.set_cons_succ]
  refine held_run 11 (some 31) (.fieldAddr 58 (.tmp 30) 1) ?v3_17_29 (by rfl) (by kernel_rfl) (by kernel_rfl) (by kernel_rfl) (fun _ _ _ h => h) (fun o ho w hS => ?y3_17_29) (by assumption) ?r3_17_29
  case y3_17_29 => (try dsimp only at hS); unfold execOp; simp only [ho]; go_simp; try with_reducible rfl
  try simp only [Act.put, List.setIfInBounds_toArray, List.set_cons_zero, List.set_cons_succ]
  refine held_run 12 (some 32) (.load 3 (.tmp 31)) ?v3_17_30 (by rfl) (by kernel_rfl) (by kernel_rfl) (by kernel_rfl) (fun _ _ _ h => h) (fun o ho w hS => ?y3_17_30) (by assumption) ?r3_17_30
  case y3_17_30 => (try dsimp only at hS); unfold execOp; simp only [ho]; go_simp; try with_reducible rfl
  try simp only [Act.put, List.setIfInBounds_toArray, List.set_cons_zero, List.set_cons_succ]
  refine held_call 13 (some 33) 14 [(.tmp 20), (.tmp 26), (.tmp 32)] #[27, 3, 3] #[.agg #[.slice pA 2 pc, .slice (some ad) mn mc], .int .i64 (a : Int), .int .i64 (b : Int)] (by rfl) (by rfl) (by kernel_rfl) Try.func14 (by rfl) (by rfl) ?_
  refine (HCan.out w1.drew HB1d.out).mono ?_
  rintro e w2 ⟨rfl, hb2⟩
  have HB2 : Hid (Below w.heap.size w w2) := hide (HB1d.out.trans (hb2.mono HB1d.out.size))
  have hX2 := HX1d.out.below hb2 (by omega)
  have HX2 := Lib.hid hX2
  have HY2 := Lib.hid (HY1d.out.below hb2 (by omega))
  have HZ2 := Lib.hid (HZ1d.out.below hb2 (by omega))
  have hs2 : w.heap.size + 3 ≤ w2.heap.size := Nat.le_trans hs1d hb2.size
  clear hb2
  have hH2 : Blk w2 w.heap.size 27 #[.slice pA 2 pc, .slice (some ad) mn mc] ∧ w2.cell? ⟨w.heap.size, 1, none⟩ = some (.slice (some ad) mn mc) ∧ w2.cell? (ad.add (i * 3)) = some (.int .i64 (a : Int)) ∧ w2.cell? ⟨(ad.add (i * 3)).block, (ad.add (i * 3)).off + 1, none⟩ = some (.int .i64 (b : Int)) := ⟨hX2, hX2.cell 1, (HB2.out.cell (by rw [block_of_add]; exact hab)).trans HC0.out, (HB2.out.cell (by show (ad.add (i * 3)).block < _; rw [block_of_add]; exact hab)).trans HC1.out⟩
  refine ⟨_, rfl, hH2, ?_⟩
  try simp only [Act.put, List.setIfInBounds_toArray, List.set_cons_zero, List.set_cons_succ]
  refine held_run 14 (some 34) (.unOp .not 4 (.tmp 33)) ?v3_17_32 (by rfl) (by kernel_rfl) (by kernel_rfl) (by kernel_rfl) (fun _ _ _ h => h) (fun o ho w hS => ?y3_17_32) (by assumption) ?r3_17_32
  case y3_17_32 => (try dsimp only at hS); unfold execOp; simp only [ho]; go_simp; try with_reducible rfl
  try simp only [Act.put, List.setIfInBounds_toArray, List.set_cons_zero, List.set_cons_succ]
  refine wpAnyH_done (by kernel_rfl) ?_ _
  have HB2' := HB2
  go_wp2_with (refine wpList_load_blk rfl 27 (.tmp 2) rfl w.heap.size rfl _ _ HX2.out _ Try.underlying27 rfl (by kernel_rfl) ?_)
  with_reducible refine (HCo.out w2 HB2.out).mono ?_
  rintro e w3 ⟨vp, vm, rfl, hop, hom, hb3⟩
  have HB3 := Lib.hid (HB2.out.trans (hb3.mono HB2.out.size))
  have HY3 := Lib.hid (HY2.out.below hb3 (by omega))
  have HZ3 := Lib.hid (HZ2.out.below hb3 (by omega))
  have hs3 : w.heap.size + 3 ≤ w3.heap.size := Nat.le_trans hs2 hb3.size
  have HOm := Lib.hid (hom.mono (show w.heap.size + 3 ≤ w2.heap.size from hs2))
  have HOp := Lib.hid (own_mono hop (show w.heap.size + 3 ≤ w2.heap.size from hs2))
  have hpo : vp.oneCell' = true := own_one hop
  have hmo : vm.oneCell' = true := own_one hom.choose_spec.2.1
  obtain ⟨A0, c0', rfl, _, _, _⟩ := own_open hop
  obtain ⟨Am, nm, cm, rfl, HNm, hnm1, hnm2, _⟩ := hom.nam
  obtain rfl : nm = mn := by rw [← HNm.out, HMl.out]
  clear hb3 HX2 HY2 HZ2 HB2 hop hom n1 hX2 hH2
  go_upto_region 6 with (fail)
  have HBw4 := (Blk.new w3 27 #[.slice A0 2 c0', .slice Am nm cm])
  have HLw4 := (below_new w3 (.cells #[.slice A0 2 c0', .slice Am nm cm] 27))
  have hsw4 : (w3.alloc (.cells #[.slice A0 2 c0', .slice Am nm cm] 27)).heap.size = w3.heap.size + 1 := by simp
  generalize w3.alloc (.cells #[.slice A0 2 c0', .slice Am nm cm] 27) = w4 at HBw4 HLw4 hsw4 ⊢
  replace HBw4 := Lib.hid HBw4
  replace HLw4 := Lib.hid HLw4
  have hlw4 : w3.heap.size < w4.heap.size := by omega
  replace hsw4 := Lib.hid hsw4
  have HX4 := HBw4
  have hx4 := hlw4
  have HL4 := HLw4
  have HY4 := Lib.hid (HY3.out.below HL4.out (by omega))
  have HZ4 := Lib.hid (HZ3.out.below HL4.out (by omega))
  have HOm4 := Lib.hid (HOm.out.now HL4.out)
  have HOp4 := Lib.hid (own_below HOp.out HL4.out (Nat.le_refl _))
  have cm4 : w4.cell? ⟨w3.heap.size, 1, none⟩ = some (.slice Am nm cm) := HX4.out.cell 1
  obtain ⟨ad4, z4, rfl, hab4, hcl4, hz4⟩ := HOm4.out.at_ rfl HNm.out hi
  rw [hq] at hcl4 hz4
  have HZb4 := Lib.hid hz4
  obtain ⟨Ab, nb, cb, rfl, HLb, hb1, hb2, _⟩ := hz4.nam
  have HCl2 : Hid (∀ j u, ([.int .i64 (a : Int), .int .i64 (b : Int), .slice Ab nb cb] : List Value)[j]? = some u → w4.cell? ((ad4.add (i * 3)).add j) = some u) := hcl4
  clear HBw4 HLw4 hsw4 hlw4 HY3 HZ3 HOm HOp hcl4 hz4 hab4
  go_upto_region 7 with (refine wpList_load_at 58 (.tmp 42) rfl rfl (ad4.add (i * 3)) rfl [.int .i64 (a : Int), .int .i64 (b : Int), .slice Ab nb cb] HCl2.out _ Try.underlying58 rfl (by kernel_rfl) ?_)
  have HBw5 := (Blk.new w4 58 #[.int .i64 (a : Int), .int .i64 (b : Int), .slice Ab nb cb])
  have HLw5 := (below_new w4 (.cells #[.int .i64 (a : Int), .int .i64 (b : Int), .slice Ab nb cb] 58))
  have hsw5 : (w4.alloc (.cells #[.int .i64 (a : Int), .int .i64 (b : Int), .slice Ab nb cb] 58)).heap.size = w4.heap.size + 1 := by simp
  generalize w4.alloc (.cells #[.int .i64 (a : Int), .int .i64 (b : Int), .slice Ab nb cb] 58) = w5 at HBw5 HLw5 hsw5 ⊢
  replace HBw5 := Lib.hid HBw5
  replace HLw5 := Lib.hid HLw5
  have hlw5 : w4.heap.size < w5.heap.size := by omega
  replace hsw5 := Lib.hid hsw5
  have HM5 := HBw5
  have hm5 := hlw5
  have HL5 := HLw5
  have HX5 := Lib.hid (HX4.out.below HL5.out hx4)
  have HY5 := Lib.hid (HY4.out.below HL5.out (by omega))
  have HZ5 := Lib.hid (HZ4.out.below HL5.out (by omega))
  have HOp5 := Lib.hid (own_below HOp4.out HL5.out (Nat.le_refl _))
  have HOm5 := Lib.hid (HOm4.out.now HL5.out)
  have HZb5 := Lib.hid (own_below HZb4.out HL5.out (Nat.le_refl _))
  have HDe := Lib.hid (dele_lt HOm5.out HNm.out i hi)
  have cm5 : w5.cell? ⟨w3.heap.size, 1, none⟩ = some (.slice (some ad4) nm cm) := HX5.out.cell 1
  have hw1 : IntKind.i64.wrap ((i : Int) + 1) = (i : Int) + 1 := by rw [IntKind.wrap_i64]; simp only [maxLen] at hnm2; omega
  have hrow5 : ∀ g, (Value.slice (some ad4) nm cm).ownBlock = some g → g < w4.heap.size := fun g hg => by
    obtain ⟨zs, _, ho, _⟩ := HOm4.out
    exact (ho.lt g hg).2
  have HR5 := Lib.hid hrow5
  clear HBw5 HLw5 hsw5 hlw5 HCl2 cm4 HX4 HY4 HZ4 HOp4 HOm4 HZb4 hrow5
  go_wp2_with fail
  with_reducible refine HDe.out.mono ?_
  rintro e w6 ⟨vd, g, rfl, hod, hg, hgo, ⟨cur, hcur⟩, ho6⟩
  have hgl : g ≠ w3.heap.size := Ne.symm (blk_ne hcur HX5.out (by decide))
  have hgm : g ≠ w4.heap.size := Nat.ne_of_lt (HR5.out g hgo.1)
  have HX6 := Lib.hid (ho6.blk HX5.out (Ne.symm hgl))
  have HM6 := Lib.hid (ho6.blk HM5.out (Ne.symm hgm))
  have HY6 := Lib.hid (ho6.blk HY5.out (Ne.symm (by omega)))
  have HZ6 := Lib.hid (ho6.blk HZ5.out (Ne.symm (by omega)))
  have HOp6 := Lib.hid (ho6.own HOp5.out (row_blk HOp5.out hcur (by decide)))
  have HZb6 := Lib.hid (ho6.own HZb5.out (row_blk HZb5.out hcur (by decide)))
  have HL6 : Hid (Below (w.heap.size + 3) w3 w6) := hide (ho6.below ((HL4.out.trans (HL5.out.mono HL4.out.size)).mono hs3) hg)
  have HOd := Lib.hid hod
  obtain ⟨Ad, nd, cd, rfl, _, _, _, _⟩ := hod.nam
  clear hw1 hd0 hd1 cm5 HDe HX5 HY5 HZ5 HM5 HOp5 HOm5 HZb5 hod ho6 hcur HR5
  go_upto_region 8 with
    (refine wpList_store_field 25 (.tmp 50) (.tmp 49) rfl rfl w3.heap.size 1 (.slice Ad nd cd) rfl rfl 27 _ HX6.out (by kernel_rfl) (by simp) rfl rfl ?_
     intro w7 hx7 hon7
     have HX7 : Hid (Blk w7 w3.heap.size 27 #[.slice A0 2 c0', .slice Ad nd cd]) := hide hx7
     have HM7 := Lib.hid (hon7.blk HM6.out (by omega))
     have HY7 := Lib.hid (hon7.blk HY6.out (by omega))
     have HZ7 := Lib.hid (hon7.blk HZ6.out (by omega))
     have HOd7 := Lib.hid (HOd.out.onlyT hon7 HX6.out (by decide) (by decide))
     have HOp7 := Lib.hid (hon7.own HOp6.out (row_blk HOp6.out HX6.out (by decide)))
     have HZb7 := Lib.hid (hon7.own HZb6.out (row_blk HZb6.out HX6.out (by decide)))
     have HL7 : Hid (Below (w.heap.size + 3) w3 w7) := hide (hon7.below HL6.out hs3)
     clear hx7 hon7)
  have hX7 : Blk w7.drew w3.heap.size 27 #[.slice A0 2 c0', .slice Ad nd cd] ∧ Blk w7.drew w4.heap.size 58 #[.int .i64 (a : Int), .int .i64 (b : Int), .slice Ab nb cb] := ⟨HX7.out, HM7.out⟩
  have HY7d : Hid (Blk w7.drew (w.heap.size + 1) 27 #[.slice none 0 0, .slice none 0 0]) := HY7
  have HZ7d : Hid (Blk w7.drew (w.heap.size + 2) 58 #[.int .i64 0, .int .i64 0, .slice none 0 0]) := HZ7
  have HOd7d : Hid (OwnLs w7.drew (w.heap.size + 3) (.slice Ad nd cd) (ms.eraseIdx i)) := HOd7
  have HOp7d : Hid (w7.drew.ownsRow (w.heap.size + 3) 3 1 (.slice A0 2 c0') 2 (ps.map (Value.int .i64))) := HOp7
  have HZb7d : Hid (OwnB w7.drew (w.heap.size + 3) (.slice Ab nb cb) bd) := HZb7
  have HL7d : Hid (Below (w.heap.size + 3) w3 w7.drew) := hide HL7.out.drew
  have hS3 : w3.heap.size < w7.drew.heap.size := by have h := HX7.out.lt; exact h
  refine wp_region_held_drew (S := fun W => Blk W w3.heap.size 27 #[.slice A0 2 c0', .slice Ad nd cd] ∧ Blk W w4.heap.size 58 #[.int .i64 (a : Int), .int .i64 (b : Int), .slice Ab nb cb]) (by kernel_rfl) (hX7) (fun hHeld => ?_)
  refine held_load 0 (some 51) 27 (.tmp 7) (by rfl) (by kernel_rfl) (by kernel_rfl) (by kernel_rfl) (w3.heap.size) 27 #[.slice A0 2 c0', .slice Ad nd cd] (fun _ _ _ h => h) (by rfl) (fun _ h => h.1) _ Try.underlying27 rfl (by kernel_rfl) (by assumption) ?_
  try simp only [Act.put, List.setIfInBounds_toArray, List.set_cons_zero, List.set_cons_succ]
  refine held_load 1 (some 52) 58 (.tmp 8) (by rfl) (by kernel_rfl) (by kernel_rfl) (by kernel_rfl) (w4.heap.size) 58 #[.int .i64 (a : Int), .int .i64 (b : Int), .slice Ab nb cb] (fun _ _ _ h => h) (by rfl) (fun _ h => h.2) _ Try.underlying58 rfl (by kernel_rfl) (by assumption) ?_
  try simp only [Act.put, List.setIfInBounds_toArray, List.set_cons_zero, List.set_cons_succ]
  refine held_one 2 (by kernel_rfl) ?_
  refine op_store_blk 2 27 (.tmp 4) (.tmp 51) (by rfl) (w.heap.size + 1) #[.slice A0 2 c0', .slice Ad nd cd] rfl rfl _ _ (HY7d.out) (by kernel_rfl) rfl (by simp [Value.oneCell']) ?_
  intro w8 hx8 hon8
  have hX8 : Blk w8 w3.heap.size 27 #[.slice A0 2 c0', .slice Ad nd cd] ∧ Blk w8 w4.heap.size 58 #[.int .i64 (a : Int), .int .i64 (b : Int), .slice Ab nb cb] := ⟨hon8.blk hX7.1 (by omega), hon8.blk hX7.2 (by omega)⟩
  have HX8 := Lib.hid hx8
  have HZ8 := Lib.hid (hon8.blk HZ7d.out (by omega))
  have HN8 : Hid (w8.ownsRow (w.heap.size + 3) 3 1 (.slice A0 2 c0') 2 (ps.map (Value.int .i64)) ∧ OwnLs w8 (w.heap.size + 3) (.slice Ad nd cd) (ms.eraseIdx i) ∧ OwnB w8 (w.heap.size + 3) (.slice Ab nb cb) bd) := hide ⟨hon8.own HOp7d.out (row_blk HOp7d.out HY7d.out (by decide)), HOd7d.out.onlyT hon8 HY7d.out (by decide) (by decide), hon8.own HZb7d.out (row_blk HZb7d.out HY7d.out (by decide))⟩
  have HB8 : Hid (Below w.heap.size w w8) := hide (hon8.below (HB3.out.trans (HL7d.out.mono (by omega))) (by omega))
  clear hx8 hon8
  refine ⟨hX8, ?_⟩
  try simp only [Act.put]
  refine held_one 3 (by kernel_rfl) ?_
  refine op_store_blk 3 58 (.tmp 5) (.tmp 52) (by rfl) (w.heap.size + 2) #[.int .i64 (a : Int), .int .i64 (b : Int), .slice Ab nb cb] rfl rfl _ _ (HZ8.out) (by kernel_rfl) rfl (by simp [Value.oneCell']) ?_
  intro w9 hz9 hon9
  have hX9 : Blk w9 w3.heap.size 27 #[.slice A0 2 c0', .slice Ad nd cd] ∧ Blk w9 w4.heap.size 58 #[.int .i64 (a : Int), .int .i64 (b : Int), .slice Ab nb cb] := ⟨hon9.blk hX8.1 (by omega), hon9.blk hX8.2 (by omega)⟩
  have HX9 := Lib.hid (hon9.blk HX8.out (by omega))
  have HZ9 := Lib.hid hz9
  have hne9 : ∀ {u : Value} {e : TypeId} {s n : Nat} {xs : List Value}, w8.ownsRow (w.heap.size + 3) e s u n xs → u.ownBlock ≠ some (w.heap.size + 2) := fun hu e => by
    have := (hu.lt _ e).1
    omega
  have HN9 : Hid (NetO w9 (.slice A0 2 c0') (.slice Ad nd cd) ps (ms.eraseIdx i)) := hide (netV_of (hon9.own HN8.out.1 (hne9 HN8.out.1)) (HN8.out.2.1.only hon9 (by omega)))
  have HV9 : Hid (OwnB w9 0 (.slice Ab nb cb) bd) := hide (OwnB.mono (base := w.heap.size + 3) (hon9.own HN8.out.2.2 (hne9 HN8.out.2.2)) (Nat.zero_le _))
  have HB9 : Hid (Below w.heap.size w w9) := hide (hon9.below HB8.out (by omega))
  clear hz9 hon9 hne9
  refine ⟨hX9, ?_⟩
  try simp only [Act.put]
  refine held_run 4 (some 6) (.assign (.const (.int .i64 0))) ?v8_33_38 (by rfl) (by kernel_rfl) (by kernel_rfl) (by kernel_rfl) (fun _ _ _ h => h) (fun o ho w hS => ?y8_33_38) (by assumption) ?r8_33_38
  case y8_33_38 => (try dsimp only at hS); unfold execOp; simp only [ho]; go_simp; try with_reducible rfl
  try simp only [Act.put, List.setIfInBounds_toArray, List.set_cons_zero, List.set_cons_succ]
  refine wpAnyH_done (by kernel_rfl) ?_ _
  go_wp2_with fail
  refine bodyPost_ret (res_cct rfl _ _ _ _ _ _ _ rfl rfl rfl (load_blk HX9.out Try.underlying27 rfl (by kernel_rfl)) (load_blk HZ9.out Try.underlying58 rfl (by kernel_rfl))) rfl ?_
  exact HFin.out _ _ _ _ HN9.out HV9.out HB9.out
end
end Go.Proofs.Ytedeggjefnpjgaa
