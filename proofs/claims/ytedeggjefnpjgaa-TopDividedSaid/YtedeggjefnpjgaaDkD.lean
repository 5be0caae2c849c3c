/-
  network.Send at a full network, walked.
  network.New, walked.
-/
import Derived.Test.YtedeggjefnpjgaaDivD
namespace Go.Proofs.Ytedeggjefnpjgaa

section
open Go.RowKit

/-- an error is returned -/
def NfR (r : Int) (w : World) (e : Ending) (w' : World) : Prop := e = .returned (.tuple #[.agg #[.slice none 0 0, .slice none 0 0], .int .i64 r]) ∧ Below w.heap.size w w'
set_option maxRecDepth 100000 in
set_option maxHeartbeats 4000000 in
theorem send_full (pA : Option Addr) (pc : Nat) (mA : Option Addr) (mn mc : Nat) (bA : Option Addr) (bn bc : Nat) (fr t : Int) (ps : List Int) (ms : List Lt) (bd : List UInt8) (w : World) (hp : Ints w w.heap.size pA 2 ps) (hm : Lts w w.heap.size mA mn ms) (hn : 256 ≤ mn)
    (h1 : 0 ≤ fr ∧ fr < 2) (h2 : 0 ≤ t ∧ t < 2) (hne : fr ≠ t) (hbd : Bytes w w.heap.size bA bn bd) (hb : bn ≤ 2000) :
    Calls Try.prog 23 #[.agg #[.slice pA 2 pc, .slice mA mn mc], .int .i64 fr, .int .i64 t, .slice bA bn bc] w (NfR 9 w) := by
  have HPa : Hid (∀ W, Calls Try.prog 46 #[.agg #[.slice pA 2 pc, .slice mA mn mc], .int .i64 fr, .int .i64 t, .slice bA bn bc] W (ErN 0 W)) := fun W => mright_any pA pc _ fr t bA bn bc W ⟨mA, mn, mc, rfl⟩ h1 h2 hne hb
  have HFin : Hid (∀ w', Below w.heap.size w w' → NfR 9 w (.returned (.tuple #[.agg #[.slice none 0 0, .slice none 0 0], .int .i64 9])) w') := fun w' h => ⟨rfl, h⟩
  generalize NfR 9 w = RR at *
  clear hp hm h1 h2 hne hbd hb
  go_enter Try.func23, Try.ntmps23
  go_upto_region 1 with (fail)
  have hwz : (w.alloc (Obj.cells #[Value.slice pA 2 pc, Value.slice mA mn mc] 27)).heap.size = w.heap.size + 1 := by simp
  obtain ⟨w0, hw0⟩ : ∃ W, w.alloc (Obj.cells #[Value.slice pA 2 pc, Value.slice mA mn mc] 27) = W := ⟨_, rfl⟩
  rw [hw0] at hwz ⊢
  have HX0 : Hid (Blk w0 w.heap.size 27 #[.slice pA 2 pc, .slice mA mn mc]) := hide (by rw [← hw0]; exact Blk.new w _ _)
  have HB0 : Hid (Below w.heap.size w w0) := hide (by rw [← hw0]; exact below_new w _)
  obtain ⟨w1, hw1⟩ : ∃ W, w0.alloc (Obj.cells #[Value.slice none 0 0, Value.slice none 0 0] 27) = W := ⟨_, rfl⟩
  rw [hw1]
  have HY1 : Hid (Blk w1 (w.heap.size + 1) 27 #[.slice none 0 0, .slice none 0 0]) := hide (by rw [← hw1, ← hwz]; exact Blk.new w0 _ _)
  have hb1 : Below w0.heap.size w0 w1 := by rw [← hw1]; exact below_new w0 _
  have HX1 := Lib.hid (HX0.out.below hb1 (by omega))
  have HB1 := Lib.hid (HB0.out.trans (hb1.mono HB0.out.size))
  have hs1 : w.heap.size + 2 ≤ w1.heap.size := by have := HY1.out.lt; omega
  have n1 : w1.cell? ⟨w.heap.size, 1, none⟩ = some (.slice mA mn mc) := HX1.out.cell 1
  clear hw0 hw1 hb1 hwz HX0 HB0
  go_wp2_with (refine wpList_load_blk rfl 27 (.tmp 4) rfl w.heap.size rfl _ _ HX1.out _ Try.underlying27 rfl (by kernel_rfl) ?_)
  with_reducible refine (HPa.out w1).mono ?_
  rintro e w2 ⟨rfl, hb2⟩
  have HB2 := Lib.hid (HB1.out.trans (hb2.mono HB1.out.size))
  have HX2 := Lib.hid (HX1.out.below hb2 (by omega))
  have HY2 := Lib.hid (HY1.out.below hb2 (by omega))
  have hs2 : w.heap.size + 2 ≤ w2.heap.size := Nat.le_trans hs1 hb2.size
  have n2 : w2.cell? ⟨w.heap.size, 1, none⟩ = some (.slice mA mn mc) := HX2.out.cell 1
  clear hb2 HX1 HY1 HB1 n1 hs1
  have dfull : (mn : Int) ≥ 256 := by omega
  go_wp2_with
    (refine wpList_store_blk rfl 27 (.tmp 8) (.tmp 25) rfl (w.heap.size + 1) #[.slice none 0 0, .slice none 0 0] rfl rfl _ _ HY2.out (by kernel_rfl) rfl (by simp [Value.oneCell']) ?_
     intro w9 hx9 hon9
     have HX9 := Lib.hid hx9
     have HB9 : Hid (Below w.heap.size w w9) := hide (hon9.below HB2.out (by omega))
     clear hx9 hon9)
  refine bodyPost_ret (results_cell_row_tmp rfl _ _ (w.heap.size + 1) 27 _ _ _ rfl rfl HX9.out Try.underlying27 rfl (by kernel_rfl)) rfl ?_
  exact HFin.out _ HB9.out
end

section
open Go.RowKit

theorem wpList_make_blk {P : Program} {w : World} {ops : Array Oper} {rest : List Oper} {o : Oper} {a : Act} {Q : Exit → Act → World → Prop} (t : TypeId) (l c : Operand) (ho : o.op = .makeSlice t l c) (hw : Region.wanted o (yielded ops a.tmps) = true) (G : Nat) (hG : w.heap.size = G)
    {e : TypeId} (hu : P.underlying t = some (.slice e)) {z : Value} {size bytes : Nat} (hinf : (P.info? e).map (fun i => (i.zero, i.size, i.bytes)) = some (some z, size, bytes)) (n : Nat) (hl : a.eval l = .int .i64 (n : Int)) (hc : a.eval c = .int .i64 (n : Int)) (hb : bytes * n ≤ 281474976710656 ∧ n ≤ 1000000)
    (h : ∀ w', Blk w' G e (madeCells z.cells (n * size)) → Below G w w' → w'.heap.size = G + 1 → wpList P ops Q rest (a.put o.dst (.slice (some ⟨G, 0, none⟩) n n)) w') : wpList P ops Q (o :: rest) a w := by
  refine wpList_want hw fun K hK => ?_
  obtain ⟨inf, h1, h2, h3, h4⟩ := info_parts hinf
  subst h3 h4 hG
  have hb' : (inf.bytes : Int) * (n : Int) ≤ 281474976710656 := by
    have h : ((inf.bytes * n : Nat) : Int) ≤ 281474976710656 := by omega
    rwa [Int.natCast_mul] at h
  have hr := run_make (P := P) w t e inf z hu h1 h2 .i64 .i64 n n (by omega) (Int.le_refl _) hb' (by omega)
  simp only [Int.toNat_natCast] at hr
  unfold Oper.wp
  simp [execOp, ho, hl, hc, hr, Result.andThen]
  exact hK _ _ (h _ (Blk.new w e _) (below_new w _) (by simp))
theorem made_two : madeCells (Value.int .i64 0).cells (2 * 1) = #[.int .i64 0, .int .i64 0] := by kernel_rfl
theorem inf_int : (Try.prog.info? 3).map (fun i => (i.zero, i.size, i.bytes)) = some (some (.int .i64 0), 1, 8) := by kernel_rfl
set_option maxRecDepth 100000 in
set_option maxHeartbeats 4000000 in
theorem new_any (w : World) : Calls Try.prog 16 #[.int .i64 2] w (NtR [0, 0] [] w) := by
  have HFin : Hid (∀ vp vm w', NetO w' vp vm [0, 0] [] → Below w.heap.size w w' → NtR [0, 0] [] w (.returned (.tuple #[.agg #[vp, vm], .int .i64 0])) w') := fun vp vm w' h1 h2 => ⟨vp, vm, rfl, h1, h2⟩
  generalize NtR [0, 0] [] w = RR at *
  go_enter Try.func16, Try.ntmps16
  go_upto_region 3 with (fail)
  obtain ⟨w1, hw1⟩ : ∃ W, w.alloc (Obj.cells #[Value.slice none 0 0, Value.slice none 0 0] 27) = W := ⟨_, rfl⟩
  rw [hw1]
  have HY1 : Hid (Blk w1 w.heap.size 27 #[.slice none 0 0, .slice none 0 0]) := hide (by rw [← hw1]; exact Blk.new w _ _)
  have HB1 : Hid (Below w.heap.size w w1) := hide (by rw [← hw1]; exact below_new w _)
  have hl1 : w.heap.size < w1.heap.size := HY1.out.lt
  clear hw1
  go_wp2_with
    (first
     | (at_make
        refine wpList_make_blk 24 (.tmp 11) (.tmp 11) rfl rfl w1.heap.size rfl Try.underlying24 inf_int 2 rfl rfl (by omega) ?_
        intro w2 hb2 hbel2 _
        rw [made_two] at hb2
        have HZ2 := Lib.hid hb2
        have HB2 : Hid (Below w.heap.size w w2) := hide (HB1.out.trans (hbel2.mono HB1.out.size))
        have HY2 := Lib.hid (HY1.out.below hbel2 hl1)
        clear hb2 hbel2)
     | (refine wpList_store_blk rfl 27 (.tmp 2) (.tmp 13) rfl w.heap.size #[.slice (some ⟨w1.heap.size, 0, none⟩) 2 2, .slice none 0 0] rfl rfl _ _ HY2.out (by kernel_rfl) rfl (by simp [Value.oneCell']) ?_
        intro w9 hx9 hon9
        have HX9 := Lib.hid hx9
        have HB9 : Hid (Below w.heap.size w w9) := hide (hon9.below HB2.out (Nat.le_refl _))
        have HN9 : Hid (NetO w9 (.slice (some ⟨w1.heap.size, 0, none⟩) 2 2) (.slice none 0 0) [0, 0] []) := hide (by
          have hz := hon9.blk HZ2.out (by omega)
          exact ⟨own_of_blk hz rfl (by simp [maxLen]), OwnLs.of_nil (World.ownsRow_nil _ _ _ _)⟩)
        clear hx9 hon9))
  refine bodyPost_ret (results_cell_row_tmp rfl _ _ w.heap.size 27 _ _ _ rfl rfl HX9.out Try.underlying27 rfl (by kernel_rfl)) rfl ?_
  exact HFin.out _ _ _ HN9.out HB9.out
end
end Go.Proofs.Ytedeggjefnpjgaa
