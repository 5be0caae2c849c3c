/-
  counting of chapter 49, and the function that it returns, walked.
-/
import Derived.Test.YtmbdlnimegdigaaBulC
namespace Go.Proofs.Ytmbdlnimegdigaa
open Go.RowKit

set_option maxRecDepth 100000 in
set_option maxHeartbeats 2000000 in
theorem counting_any (A : Option Addr) (n c : Nat) (bs : List Bu) (t : Int) (w : World) (hr : Buls w w.heap.size A n bs) (hn : n ≤ maxLen) :
    Calls Try.prog 33 #[.slice A n c, .int .i64 t] w fun e w' => ∃ g1 g2 : Nat, e = .returned (.func (.func 36) #[] #[.pointer (some ⟨g1, 0, none⟩), .pointer (some ⟨g2, 0, none⟩)]) ∧ Blk w' g1 3 #[.int .i64 (curN bs t)] ∧ Blk w' g2 3 #[.int .i64 t] ∧ Below w.heap.size w w' := by
  have HR := Lib.hid hr
  clear hr
  obtain ⟨v, hv⟩ : ∃ v, curN bs t = v := ⟨_, rfl⟩
  have HC : Hid (∀ W : World, Buls W W.heap.size A n bs → Calls Try.prog 17 #[.slice A n c, .int .i64 t] W fun e w' => e = .returned (.int .i64 v) ∧ Below W.heap.size W w') := by
    intro W hW
    rw [← hv]
    exact cur_any _ _ _ bs t W hW hn
  rw [hv]
  clear hv
  go_enter Try.func33, Try.ntmps33
  go_wp2_with fail
  have HBw0 := (Blk.new w 3 #[.int .i64 t])
  have HLw0 := (below_new w (.cells #[.int .i64 t] 3))
  have hsw0 : (w.alloc (.cells #[.int .i64 t] 3)).heap.size = w.heap.size + 1 := by simp
  generalize w.alloc (.cells #[.int .i64 t] 3) = w0 at HBw0 HLw0 hsw0 ⊢
  replace HBw0 := Lib.hid HBw0
  replace HLw0 := Lib.hid HLw0
  have hlw0 : w.heap.size < w0.heap.size := by omega
  replace hsw0 := Lib.hid hsw0
  have HR0 := Lib.hid (HR.out.now HLw0.out)
  with_reducible refine (HC.out _ HR0.out).mono ?_
  rintro e w1 ⟨rfl, hb1⟩
  have HB1 := Lib.hid (HLw0.out.trans (hb1.mono HLw0.out.size))
  have HX1 := Lib.hid (HBw0.out.below hb1 hlw0)
  clear hb1
  have hl1 : w.heap.size < w1.heap.size := HX1.out.lt
  go_wp2_with
    (refine wpList_store_field 3 (.tmp 5) (.tmp 8) rfl rfl w1.heap.size 0 (.int .i64 v) rfl rfl _ _ (Blk.new w1 3 #[.int .i64 0]) (by kernel_rfl) (by simp) rfl rfl ?_
     intro w2 hx2 hon2
     have hb2 := hon2.below (below_new w1 (.cells #[.int .i64 0] 3)) (Nat.le_refl _)
     have HB2 := Lib.hid (HB1.out.trans (hb2.mono HB1.out.size))
     have HX2 := Lib.hid (HX1.out.below hb2 hl1)
     have HY2 : Hid (Blk w2 w1.heap.size 3 #[.int .i64 v]) := hide hx2
     clear hx2 hon2 hb2)
  refine bodyPost_ret (results_tmp rfl _ _ _) rfl ?_
  exact ⟨_, _, rfl, HY2.out, HX2.out, HB2.out⟩
set_option maxRecDepth 100000 in
set_option maxHeartbeats 2000000 in
theorem count_any (b : Bu) (z : Value) (hz : z.oneCell' = true) (v t : Int) (g1 g2 : Nat) (w : World) (h1 : Blk w g1 3 #[.int .i64 v]) (h2 : Blk w g2 3 #[.int .i64 t]) :
    Calls Try.prog 36 #[.agg #[.int .i64 b.ver, .int .i64 b.fr, .int .i64 b.ti, .int .i64 b.lo, .int .i64 b.hi, z, .int .i64 b.lev], .pointer (some ⟨g1, 0, none⟩), .pointer (some ⟨g2, 0, none⟩)] w fun e w' => e = .returned (.bool (countB v t b)) ∧ Below w.heap.size w w' := by
  obtain ⟨ver, fr, ti, lo, hi, lev, zs⟩ := b
  have HX1 := Lib.hid h1
  have HX2 := Lib.hid h2
  have l1 := h1.lt
  have l2 := h2.lt
  clear h1 h2
  have HV : Hid (decide (ver = v) = (ver == v)) := by show _ = _; rw [Bool.eq_iff_iff]; simp
  show Calls _ _ _ _ fun e w' => e = .returned (.bool (decide (ver = v) && (decide (fr ≤ t) && decide (t < ti)))) ∧ _
  by_cases hv : ver = v
  · have d1 : (ver == v) = true := beq_iff_eq.2 hv
    rw [decide_eq_true hv, Bool.true_and]
    obtain ⟨h, hh⟩ : ∃ h, (decide (fr ≤ t) && decide (t < ti)) = h := ⟨_, rfl⟩
    have HC : Hid (∀ W : World, Calls Try.prog 30 #[.agg #[.int .i64 fr, .int .i64 ti], .int .i64 t] W fun e w' => e = .returned (.bool h) ∧ Below W.heap.size W w') := by
      intro W
      rw [← hh]
      exact has_any fr ti t W
    rw [hh]
    clear hv hh HV
    go_enter Try.func36, Try.ntmps36
    go_wp2_with
      (refine wpList_box_blk rfl 31 (.tmp 0) rfl #[.int .i64 ver, .int .i64 fr, .int .i64 ti, .int .i64 lo, .int .i64 hi, z, .int .i64 lev] rfl ?_
       intro w1 hx1 hb1 hs1
       have HX := Lib.hid hx1
       have HB1 := Lib.hid hb1
       have c1 : w1.cell? ⟨g1, 0, none⟩ = some (.int .i64 v) := (HX1.out.below hb1 l1).cell 0
       have c2 : w1.cell? ⟨g2, 0, none⟩ = some (.int .i64 t) := (HX2.out.below hb1 l2).cell 0
       have e0 : w1.cell? ⟨w.heap.size, 0, none⟩ = some (.int .i64 ver) := HX.out.cell 0
       have e1 : w1.cell? ⟨w.heap.size, 1, none⟩ = some (.int .i64 fr) := HX.out.cell 1
       have e2 : w1.cell? ⟨w.heap.size, 2, none⟩ = some (.int .i64 ti) := HX.out.cell 2
       have e3 : w1.cell? ⟨w.heap.size, 3, none⟩ = some (.int .i64 lo) := HX.out.cell 3
       have e4 : w1.cell? ⟨w.heap.size, 4, none⟩ = some (.int .i64 hi) := HX.out.cell 4
       have e5 : w1.cell? ⟨w.heap.size, 5, none⟩ = some (z) := HX.out.cell 5
       have e6 : w1.cell? ⟨w.heap.size, 6, none⟩ = some (.int .i64 lev) := HX.out.cell 6
       clear hx1 hb1 hs1)
    with_reducible refine (HC.out _).mono ?_
    rintro e w2 ⟨rfl, hb2⟩
    have HB2 := Lib.hid (HB1.out.trans (hb2.mono HB1.out.size))
    clear hb2
    go_wp2_with fail
    go_ret
    exact ⟨rfl, HB2.out⟩
  · have d1 : (ver == v) = false := beq_eq_false_iff_ne.2 hv
    rw [decide_eq_false hv, Bool.false_and]
    clear hv HV
    go_enter Try.func36, Try.ntmps36
    go_wp2_with
      (refine wpList_box_blk rfl 31 (.tmp 0) rfl #[.int .i64 ver, .int .i64 fr, .int .i64 ti, .int .i64 lo, .int .i64 hi, z, .int .i64 lev] rfl ?_
       intro w1 hx1 hb1 hs1
       have HX := Lib.hid hx1
       have HB1 := Lib.hid hb1
       have c1 : w1.cell? ⟨g1, 0, none⟩ = some (.int .i64 v) := (HX1.out.below hb1 l1).cell 0
       have c2 : w1.cell? ⟨g2, 0, none⟩ = some (.int .i64 t) := (HX2.out.below hb1 l2).cell 0
       have e0 : w1.cell? ⟨w.heap.size, 0, none⟩ = some (.int .i64 ver) := HX.out.cell 0
       have e1 : w1.cell? ⟨w.heap.size, 1, none⟩ = some (.int .i64 fr) := HX.out.cell 1
       have e2 : w1.cell? ⟨w.heap.size, 2, none⟩ = some (.int .i64 ti) := HX.out.cell 2
       have e3 : w1.cell? ⟨w.heap.size, 3, none⟩ = some (.int .i64 lo) := HX.out.cell 3
       have e4 : w1.cell? ⟨w.heap.size, 4, none⟩ = some (.int .i64 hi) := HX.out.cell 4
       have e5 : w1.cell? ⟨w.heap.size, 5, none⟩ = some (z) := HX.out.cell 5
       have e6 : w1.cell? ⟨w.heap.size, 6, none⟩ = some (.int .i64 lev) := HX.out.cell 6
       clear hx1 hb1 hs1)
    go_ret
    exact ⟨rfl, HB1.out⟩
end Go.Proofs.Ytmbdlnimegdigaa
