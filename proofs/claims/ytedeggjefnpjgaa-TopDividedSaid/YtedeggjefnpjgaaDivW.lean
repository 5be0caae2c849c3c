/-
  uplink.consecutive and Right, walked.
-/
import Derived.Test.YtedeggjefnpjgaaDivV
namespace Go.Proofs.Ytedeggjefnpjgaa
open Go.RowKit

set_option maxRecDepth 100000 in
set_option maxHeartbeats 4000000 in
theorem consec_any (A : Option Addr) (n c : Nat) (l : List Rd) (g f : Int) (w : World) (hr : Strs Rd.cells 7 w w.heap.size A n l) (hl : l.length = n) (hn : n ≤ 1000000) (hf : 0 ≤ f ∧ f ≤ 1000000) (h : ∀ k, k < n → (l.getD k rd0).gate = g ∧ (l.getD k rd0).seq = f + k) :
    Calls Try.prog 32 #[.slice A n c, .int .i64 g, .int .i64 f] w (BoR true w) := by
  have HR := Lib.hid hr
  have HL := Lib.hid hl
  have HK := Lib.hid h
  have HFin : Hid (∀ w', Below w.heap.size w w' → BoR true w (.returned (.bool true)) w') := fun w' h => ⟨rfl, h⟩
  generalize BoR true w = RR at *
  obtain ⟨hf0, hf1⟩ := hf
  clear hr hl h
  go_enter Try.func32, Try.ntmps32
  go_wp2_with fail
  go_loopw [11] (fun i wr => ∃ k : Nat, k ≤ n ∧ i = .int .i64 k ∧ Below w.heap.size w wr) (fun i _ => n - (intOf i).toNat)
  case atStart => exact ⟨0, by omega, rfl, Below.refl _ _⟩
  case round =>
    obtain ⟨k, hk, rfl, hbr⟩ := hrel
    obtain ⟨wo, rfl⟩ : ∃ wo : World, wo = wr := ⟨_, rfl⟩
    have HB := Lib.hid hbr
    clear hbr
    by_cases hlt : k < n
    · obtain ⟨ad, rfl, hadb, hcl⟩ := strs_at (HR.out.below HB.out) (fun _ => rfl) HL.out hlt rd0
      obtain ⟨hg, hs⟩ := HK.out k hlt
      generalize l.getD k rd0 = r at *
      have HCl : Hid (∀ i u, (Rd.cells r)[i]? = some u → wo.cell? ((ad.add (k * 7)).add i) = some u) := hcl
      obtain ⟨gate, seq, ser, cnt, prod, lift, att⟩ := r
      simp only at hg hs
      subst hg
      have hw1 : IntKind.i64.wrap (f + (k : Int)) = f + (k : Int) := by rw [IntKind.wrap_i64]; omega
      have hs2 : (seq == f + (k : Int)) = true := by simp [hs]
      clear hcl hs
      go_upto_region 4 with (refine wpList_load_at 55 (.tmp 14) rfl rfl (ad.add (k * 7)) rfl [.int .i64 gate, .int .i64 seq, .int .i64 ser, .int .i64 cnt, .int .i64 prod, .int .i64 lift, .int .i64 att] HCl.out _ Try.underlying55 rfl (by kernel_rfl) ?_)
      have HBw3 := (Blk.new wo 55 #[.int .i64 gate, .int .i64 seq, .int .i64 ser, .int .i64 cnt, .int .i64 prod, .int .i64 lift, .int .i64 att])
      have HLw3 := (below_new wo (.cells #[.int .i64 gate, .int .i64 seq, .int .i64 ser, .int .i64 cnt, .int .i64 prod, .int .i64 lift, .int .i64 att] 55))
      have hsw3 : (wo.alloc (.cells #[.int .i64 gate, .int .i64 seq, .int .i64 ser, .int .i64 cnt, .int .i64 prod, .int .i64 lift, .int .i64 att] 55)).heap.size = wo.heap.size + 1 := by simp
      generalize wo.alloc (.cells #[.int .i64 gate, .int .i64 seq, .int .i64 ser, .int .i64 cnt, .int .i64 prod, .int .i64 lift, .int .i64 att] 55) = w3 at HBw3 HLw3 hsw3 ⊢
      replace HBw3 := Lib.hid HBw3
      replace HLw3 := Lib.hid HLw3
      have hlw3 : wo.heap.size < w3.heap.size := by omega
      replace hsw3 := Lib.hid hsw3
      have y0 : w3.cell? ⟨wo.heap.size, 0, none⟩ = some (.int .i64 gate) := HBw3.out.cell 0
      have y1 : w3.cell? ⟨wo.heap.size, 1, none⟩ = some (.int .i64 seq) := HBw3.out.cell 1
      have HB3 : Hid (Below w.heap.size w w3) := hide (HB.out.trans (HLw3.out.mono HB.out.size))
      go_wp2_with fail
      go_roundw
      case rel => exact ⟨k + 1, by omega, by go_num, HB3.out⟩
      case measure => simp [intOf]; omega
    · obtain rfl : k = n := by omega
      go_wp2_with fail
      try go_ret
      exact HFin.out _ HB.out
/-- the number behind which the early ride k must lie -/
def lastE (kx : Int) (l : List Rd) : Nat → Int
  | 0 => kx
  | k + 1 => (l.getD k rd0).seq
set_option maxRecDepth 100000 in
set_option maxHeartbeats 8000000 in
theorem uright_any (g nx kx f : Int) (mA : Option Addr) (mn mc : Nat) (gA : Option Addr) (gn gc : Nat) (eA : Option Addr) (en ec : Nat) (mail got early : List Rd) (w : World)
    (hm : Strs Rd.cells 7 w w.heap.size mA mn mail) (hml : mail.length = mn) (hg : Strs Rd.cells 7 w w.heap.size gA gn got) (hgl : got.length = gn) (he : Strs Rd.cells 7 w w.heap.size eA en early) (hel : early.length = en) (hen : en ≤ 1000)
    (hx : 1 ≤ nx ∧ nx ≤ 1000) (hf : f = nx - mn) (hf1 : 1 ≤ f) (hmk : ∀ k, k < mn → (mail.getD k rd0).gate = g ∧ (mail.getD k rd0).seq = f + k) (hkx : f ≤ kx ∧ kx ≤ nx) (hgn : (gn : Int) = kx - 1) (hgk : ∀ k, k < gn → (got.getD k rd0).gate = g ∧ (got.getD k rd0).seq = 1 + k)
    (hek : ∀ k, k < en → lastE kx early k < (early.getD k rd0).seq ∧ (early.getD k rd0).seq < nx ∧ ∃ m : Nat, m < mn ∧ (early.getD k rd0).seq - f = (m : Int) ∧ mail.getD m rd0 = early.getD k rd0) :
    Calls Try.prog 12 #[.agg #[.int .i64 g, .int .i64 nx, .slice mA mn mc], .agg #[.int .i64 g, .int .i64 kx, .slice gA gn gc, .slice eA en ec]] w (BoR true w) := by
  obtain ⟨hx0, hx1⟩ := hx
  obtain ⟨hkx0, hkx1⟩ := hkx
  have HCm : Hid (∀ W, Below w.heap.size w W → Calls Try.prog 32 #[.slice mA mn mc, .int .i64 g, .int .i64 f] W (BoR true W)) := fun W h => consec_any mA mn mc mail g f W (hm.now h) hml (by omega) (by omega) hmk
  have HCg : Hid (∀ W, Below w.heap.size w W → Calls Try.prog 32 #[.slice gA gn gc, .int .i64 g, .int .i64 1] W (BoR true W)) := fun W h => consec_any gA gn gc got g 1 W (hg.now h) hgl (by omega) (by omega) hgk
  have HM := Lib.hid hm
  have HMl := Lib.hid hml
  have HE := Lib.hid he
  have HEl := Lib.hid hel
  have HEk := Lib.hid hek
  have HFin : Hid (∀ w', Below w.heap.size w w' → BoR true w (.returned (.bool true)) w') := fun w' h => ⟨rfl, h⟩
  generalize BoR true w = RR at *
  have d4 : ¬ (kx < f) := by omega
  subst hf
  have d1 : ¬ (nx < 1) := by omega
  have d2 : ¬ (nx > 1000000) := by omega
  have hw1 : IntKind.i64.wrap (nx - 1) = nx - 1 := by rw [IntKind.wrap_i64]; omega
  have d3 : ¬ ((mn : Int) > nx - 1) := by omega
  have hw2 : IntKind.i64.wrap (nx - (mn : Int)) = nx - (mn : Int) := by rw [IntKind.wrap_i64]; omega
  have d5 : ¬ (kx > nx) := by omega
  have hw3 : IntKind.i64.wrap (kx - 1) = (gn : Int) := by rw [IntKind.wrap_i64]; omega
  clear hm hml hg hgl he hel hmk hgk hek
  go_enter Try.func12, Try.ntmps12
  go_upto_region 1 with (fail)
  have hwz : (w.alloc (Obj.cells #[Value.int .i64 g, Value.int .i64 nx, Value.slice mA mn mc] 30)).heap.size = w.heap.size + 1 := by simp
  obtain ⟨w0, hw0⟩ : ∃ W, w.alloc (Obj.cells #[Value.int .i64 g, Value.int .i64 nx, Value.slice mA mn mc] 30) = W := ⟨_, rfl⟩
  rw [hw0] at hwz ⊢
  have HX0 : Hid (Blk w0 w.heap.size 30 #[.int .i64 g, .int .i64 nx, .slice mA mn mc]) := hide (by rw [← hw0]; exact Blk.new w _ _)
  have HB0 : Hid (Below w.heap.size w w0) := hide (by rw [← hw0]; exact below_new w _)
  obtain ⟨w1, hw1'⟩ : ∃ W, w0.alloc (Obj.cells #[Value.int .i64 g, Value.int .i64 kx, Value.slice gA gn gc, Value.slice eA en ec] 32) = W := ⟨_, rfl⟩
  rw [hw1']
  have HY1 : Hid (Blk w1 (w.heap.size + 1) 32 #[.int .i64 g, .int .i64 kx, .slice gA gn gc, .slice eA en ec]) := hide (by rw [← hw1', ← hwz]; exact Blk.new w0 _ _)
  have hb1 : Below w0.heap.size w0 w1 := by rw [← hw1']; exact below_new w0 _
  have HX1 := Lib.hid (HX0.out.below hb1 (by omega))
  have HB1 := Lib.hid (HB0.out.trans (hb1.mono HB0.out.size))
  have hs1 : w.heap.size + 2 ≤ w1.heap.size := by have := HY1.out.lt; omega
  clear hw0 hw1' hb1 hwz HX0 HB0
  have x0 : w1.cell? ⟨w.heap.size, 0, none⟩ = some (.int .i64 g) := HX1.out.cell 0
  have x1 : w1.cell? ⟨w.heap.size, 1, none⟩ = some (.int .i64 nx) := HX1.out.cell 1
  have x2 : w1.cell? ⟨w.heap.size, 2, none⟩ = some (.slice mA mn mc) := HX1.out.cell 2
  have y0 : w1.cell? ⟨w.heap.size + 1, 0, none⟩ = some (.int .i64 g) := HY1.out.cell 0
  have y1 : w1.cell? ⟨w.heap.size + 1, 1, none⟩ = some (.int .i64 kx) := HY1.out.cell 1
  have y2 : w1.cell? ⟨w.heap.size + 1, 2, none⟩ = some (.slice gA gn gc) := HY1.out.cell 2
  have y3 : w1.cell? ⟨w.heap.size + 1, 3, none⟩ = some (.slice eA en ec) := HY1.out.cell 3
  go_wp2_with fail
  with_reducible refine (HCm.out w1 HB1.out).mono ?_
  rintro e w2 ⟨rfl, hb2⟩
  have HB2 := Lib.hid (HB1.out.trans (hb2.mono HB1.out.size))
  have HX2 := Lib.hid (HX1.out.below hb2 (by omega))
  have HY2 := Lib.hid (HY1.out.below hb2 (by omega))
  have hs2 : w.heap.size + 2 ≤ w2.heap.size := Nat.le_trans hs1 hb2.size
  clear x0 x1 x2 y0 y1 y2 y3 HX1 HY1 HB1 hb2 d1 d2 d3 hw1 hw2
  have x0 : w2.cell? ⟨w.heap.size, 0, none⟩ = some (.int .i64 g) := HX2.out.cell 0
  have x1 : w2.cell? ⟨w.heap.size, 1, none⟩ = some (.int .i64 nx) := HX2.out.cell 1
  have x2 : w2.cell? ⟨w.heap.size, 2, none⟩ = some (.slice mA mn mc) := HX2.out.cell 2
  have y0 : w2.cell? ⟨w.heap.size + 1, 0, none⟩ = some (.int .i64 g) := HY2.out.cell 0
  have y1 : w2.cell? ⟨w.heap.size + 1, 1, none⟩ = some (.int .i64 kx) := HY2.out.cell 1
  have y2 : w2.cell? ⟨w.heap.size + 1, 2, none⟩ = some (.slice gA gn gc) := HY2.out.cell 2
  have y3 : w2.cell? ⟨w.heap.size + 1, 3, none⟩ = some (.slice eA en ec) := HY2.out.cell 3
  go_wp2_with fail
  with_reducible refine (HCg.out w2 HB2.out).mono ?_
  rintro e w3 ⟨rfl, hb3⟩
  have HB3 := Lib.hid (HB2.out.trans (hb3.mono HB2.out.size))
  have HX3 := Lib.hid (HX2.out.below hb3 (by omega))
  have HY3 := Lib.hid (HY2.out.below hb3 (by omega))
  have hs3 : w.heap.size + 2 ≤ w3.heap.size := Nat.le_trans hs2 hb3.size
  clear x0 x1 x2 y0 y1 y2 y3 HX2 HY2 HB2 hb3 d4 d5 hw3
  have y0 : w3.cell? ⟨w.heap.size + 1, 0, none⟩ = some (.int .i64 g) := HY3.out.cell 0
  have y1 : w3.cell? ⟨w.heap.size + 1, 1, none⟩ = some (.int .i64 kx) := HY3.out.cell 1
  have y2 : w3.cell? ⟨w.heap.size + 1, 2, none⟩ = some (.slice gA gn gc) := HY3.out.cell 2
  have y3 : w3.cell? ⟨w.heap.size + 1, 3, none⟩ = some (.slice eA en ec) := HY3.out.cell 3
  go_wp2_with fail
  go_loopw [6, 77] (fun lv i wr => ∃ k : Nat, k ≤ en ∧ i = .int .i64 k ∧ lv = .int .i64 (lastE kx early k) ∧ Below w3.heap.size w3 wr) (fun _ i _ => en - (intOf i).toNat)
  case atStart => exact ⟨0, by omega, rfl, rfl, Below.refl _ _⟩
  case round =>
    obtain ⟨k, hk, rfl, rfl, hbr⟩ := hrel
    obtain ⟨wo, rfl⟩ : ∃ wo : World, wo = wr := ⟨_, rfl⟩
    have HB := Lib.hid hbr
    have HBo : Hid (Below w.heap.size w wo) := hide (HB3.out.trans (hbr.mono HB3.out.size))
    clear hbr
    by_cases hlt : k < en
    · obtain ⟨ad, rfl, hadb, hcl⟩ := strs_at (HE.out.below HBo.out) (fun _ => rfl) HEl.out hlt rd0
      obtain ⟨h1, h2, m, hm, hsub, heq⟩ := HEk.out k hlt
      obtain ⟨adm, rfl, hadm, hcm⟩ := strs_at (HM.out.below HBo.out) (fun _ => rfl) HMl.out hm rd0
      rw [heq] at hcm
      have hl2 : lastE kx early (k + 1) = (early.getD k rd0).seq := rfl
      generalize lastE kx early k = last at *
      generalize early.getD k rd0 = r at *
      have HCl : Hid (∀ i u, (Rd.cells r)[i]? = some u → wo.cell? ((ad.add (k * 7)).add i) = some u) := hcl
      obtain ⟨gate, seq, ser, cnt, prod, lift, att⟩ := r
      simp only at h1 h2 hsub hl2
      have HHm : Hid (∀ i u, ([.int .i64 gate, .int .i64 seq, .int .i64 ser, .int .i64 cnt, .int .i64 prod, .int .i64 lift, .int .i64 att] : List Value)[i]? = some u → wo.cell? ((adm.add (m * 7)).add i) = some u) := hcm
      have HL2 := Lib.hid hl2
      have e1 : decide (seq ≤ last) = false := by simp; omega
      have e2 : decide (seq ≥ nx) = false := by simp; omega
      have e3 : IntKind.i64.wrap (m : Int) = (m : Int) := by rw [IntKind.wrap_i64]; omega
      have e5 : (0 : Int) ≤ (m : Int) := by omega
      have e4 : (m : Int) < (mn : Int) := by omega
      clear hcl hcm heq hl2
      go_upto_region 14 with (refine wpList_load_at 55 (.tmp 79) rfl rfl (ad.add (k * 7)) rfl [.int .i64 gate, .int .i64 seq, .int .i64 ser, .int .i64 cnt, .int .i64 prod, .int .i64 lift, .int .i64 att] HCl.out _ Try.underlying55 rfl (by kernel_rfl) ?_)
      have HBw4 := (Blk.new wo 55 #[.int .i64 gate, .int .i64 seq, .int .i64 ser, .int .i64 cnt, .int .i64 prod, .int .i64 lift, .int .i64 att])
      have HLw4 := (below_new wo (.cells #[.int .i64 gate, .int .i64 seq, .int .i64 ser, .int .i64 cnt, .int .i64 prod, .int .i64 lift, .int .i64 att] 55))
      have hsw4 : (wo.alloc (.cells #[.int .i64 gate, .int .i64 seq, .int .i64 ser, .int .i64 cnt, .int .i64 prod, .int .i64 lift, .int .i64 att] 55)).heap.size = wo.heap.size + 1 := by simp
      generalize wo.alloc (.cells #[.int .i64 gate, .int .i64 seq, .int .i64 ser, .int .i64 cnt, .int .i64 prod, .int .i64 lift, .int .i64 att] 55) = w4 at HBw4 HLw4 hsw4 ⊢
      replace HBw4 := Lib.hid HBw4
      replace HLw4 := Lib.hid HLw4
      have hlw4 : wo.heap.size < w4.heap.size := by omega
      replace hsw4 := Lib.hid hsw4
      have HB4 : Hid (Below w3.heap.size w3 w4) := hide (HB.out.trans (HLw4.out.mono HB.out.size))
      have HS : Hid (Blk w4.drew wo.heap.size 55 #[.int .i64 gate, .int .i64 seq, .int .i64 ser, .int .i64 cnt, .int .i64 prod, .int .i64 lift, .int .i64 att] ∧ w4.drew.cell? ⟨wo.heap.size, 1, none⟩ = some (.int .i64 seq) ∧ w4.drew.cell? ⟨w.heap.size, 1, none⟩ = some (.int .i64 nx) ∧ w4.drew.cell? ⟨w.heap.size, 2, none⟩ = some (.slice (some adm) mn mc) ∧ (∀ i u, ([.int .i64 gate, .int .i64 seq, .int .i64 ser, .int .i64 cnt, .int .i64 prod, .int .i64 lift, .int .i64 att] : List Value)[i]? = some u → w4.drew.cell? ((adm.add (m * 7)).add i) = some u)) := by
        have hx := HX3.out.below HB4.out (by omega)
        refine hide ⟨HBw4.out, HBw4.out.cell 1, hx.cell 1, hx.cell 2, fun i u hu => ?_⟩
        have hc := HHm.out i u hu
        refine (HLw4.out.cell (p := (adm.add (m * 7)).add i) ?_).trans hc
        rw [block_of_add, block_of_add]
        have := HBo.out.size
        have h : adm.block < w.heap.size := hadm
        omega
      have hadw : adm.block < w.heap.size := hadm
      clear HBw4 HLw4 hsw4 hlw4 HCl HHm
      refine wp_region_held_drew (S := fun W => Blk W wo.heap.size 55 #[.int .i64 gate, .int .i64 seq, .int .i64 ser, .int .i64 cnt, .int .i64 prod, .int .i64 lift, .int .i64 att] ∧ W.cell? ⟨wo.heap.size, 1, none⟩ = some (.int .i64 seq) ∧ W.cell? ⟨w.heap.size, 1, none⟩ = some (.int .i64 nx) ∧ W.cell? ⟨w.heap.size, 2, none⟩ = some (.slice (some adm) mn mc) ∧ (∀ i u, ([.int .i64 gate, .int .i64 seq, .int .i64 ser, .int .i64 cnt, .int .i64 prod, .int .i64 lift, .int .i64 att] : List Value)[i]? = some u → W.cell? ((adm.add (m * 7)).add i) = some u)) (by kernel_rfl) (HS.out) (fun hHeld => ?_)
      refine held_run 0 (some 81) (.fieldAddr 55 (.tmp 8) 1) ?v14_1_2 (by rfl) (by kernel_rfl) (by kernel_rfl) (by kernel_rfl) (fun _ _ _ h => h) (fun o ho w hS => ?y14_1_2) (by assumption) ?r14_1_2
      case y14_1_2 => (try dsimp only at hS); unfold execOp; simp only [ho]; go_simp; try with_reducible rfl
      try simp only [Act.put, List.setIfInBounds_toArray, List.set_cons_zero, List.set_cons_succ]
      refine held_run 1 (some 82) (.load 3 (.tmp 81)) ?v14_1_3 (by rfl) (by kernel_rfl) (by kernel_rfl) (by kernel_rfl) (fun _ _ _ h => h) (fun o ho w hS => ?y14_1_3) (by assumption) ?r14_1_3
      case y14_1_3 => (try dsimp only at hS); unfold execOp; simp only [ho]; go_simp; try with_reducible rfl
      try simp only [Act.put, List.setIfInBounds_toArray, List.set_cons_zero, List.set_cons_succ]
      refine held_run 2 (some 83) (.move (.tmp 6)) ?v14_1_4 (by rfl) (by kernel_rfl) (by kernel_rfl) (by kernel_rfl) (fun _ _ _ h => h) (fun o ho w hS => ?y14_1_4) (by assumption) ?r14_1_4
      case y14_1_4 => (try dsimp only at hS); unfold execOp; simp only [ho]; go_simp; try with_reducible rfl
      try simp only [Act.put, List.setIfInBounds_toArray, List.set_cons_zero, List.set_cons_succ]
      refine held_run 3 (some 84) (.binOp .leq 3 (.tmp 82) (.tmp 83) 3) ?v14_1_5 (by rfl) (by kernel_rfl) (by kernel_rfl) (by kernel_rfl) (fun _ _ _ h => h) (fun o ho w hS => ?y14_1_5) (by assumption) ?r14_1_5
      case y14_1_5 => (try dsimp only at hS); unfold execOp; simp only [ho]; go_simp; try with_reducible rfl
      try simp only [Act.put, List.setIfInBounds_toArray, List.set_cons_zero, List.set_cons_succ]
      refine held_run 4 (some 85) (.move (.tmp 84)) ?v14_1_6 (by rfl) (by kernel_rfl) (by kernel_rfl) (by kernel_rfl) (fun _ _ _ h => h) (fun o ho w hS => ?y14_1_6) (by assumption) ?r14_1_6
      case y14_1_6 => (try dsimp only at hS); unfold execOp; simp only [ho]; go_simp; try with_reducible rfl
      try simp only [Act.put, List.setIfInBounds_toArray, List.set_cons_zero, List.set_cons_succ]
      refine held_run 5 (some 86) (.fieldAddr 55 (.tmp 8) 1) ?v14_1_7 (by rfl) (by kernel_rfl) (by kernel_rfl) (by kernel_rfl) (fun _ _ _ h => h) (fun o ho w hS => ?y14_1_7) (by assumption) ?r14_1_7
      case y14_1_7 => (try dsimp only at hS); unfold execOp; simp only [ho]; go_simp; try with_reducible rfl
      try simp only [Act.put, List.setIfInBounds_toArray, List.set_cons_zero, List.set_cons_succ]
      refine held_run 6 (some 87) (.load 3 (.tmp 86)) ?v14_1_8 (by rfl) (by kernel_rfl) (by kernel_rfl) (by kernel_rfl) (fun _ _ _ h => h) (fun o ho w hS => ?y14_1_8) (by assumption) ?r14_1_8
      case y14_1_8 => (try dsimp only at hS); unfold execOp; simp only [ho]; go_simp; try with_reducible rfl
      try simp only [Act.put, List.setIfInBounds_toArray, List.set_cons_zero, List.set_cons_succ]
      refine held_run 7 (some 88) (.fieldAddr 30 (.tmp 2) 1) ?v14_1_9 (by rfl) (by kernel_rfl) (by kernel_rfl) (by kernel_rfl) (fun _ _ _ h => h) (fun o ho w hS => ?y14_1_9) (by assumption) ?r14_1_9
      case y14_1_9 => (try dsimp only at hS); unfold execOp; simp only [ho]; go_simp; try with_reducible rfl
      try simp only [Act.put, List.setIfInBounds_toArray, List.set_cons_zero, List.set_cons_succ]
      refine held_run 8 (some 89) (.load 3 (.tmp 88)) ?v14_1_10 (by rfl) (by kernel_rfl) (by kernel_rfl) (by kernel_rfl) (fun _ _ _ h => h) (fun o ho w hS => ?y14_1_10) (by assumption) ?r14_1_10
      case y14_1_10 => (try dsimp only at hS); unfold execOp; simp only [ho]; go_simp; try with_reducible rfl
      try simp only [Act.put, List.setIfInBounds_toArray, List.set_cons_zero, List.set_cons_succ]
      refine held_run 9 (some 90) (.binOp .geq 3 (.tmp 87) (.tmp 89) 3) ?v14_1_11 (by rfl) (by kernel_rfl) (by kernel_rfl) (by kernel_rfl) (fun _ _ _ h => h) (fun o ho w hS => ?y14_1_11) (by assumption) ?r14_1_11
      case y14_1_11 => (try dsimp only at hS); unfold execOp; simp only [ho]; go_simp; try with_reducible rfl
      try simp only [Act.put, List.setIfInBounds_toArray, List.set_cons_zero, List.set_cons_succ]
      refine held_run 10 (some 91) (.pick (.tmp 85) (.const (Value.bool true)) (.tmp 90)) ?v14_1_12 (by rfl) (by kernel_rfl) (by kernel_rfl) (by kernel_rfl) (fun _ _ _ h => h) (fun o ho w hS => ?y14_1_12) (by assumption) ?r14_1_12
      case y14_1_12 => (try dsimp only at hS); unfold execOp; simp only [ho]; go_simp; try with_reducible rfl
      try simp only [Act.put, List.setIfInBounds_toArray, List.set_cons_zero, List.set_cons_succ]
      refine held_run 11 (some 92) (.move (.tmp 91)) ?v14_1_13 (by rfl) (by kernel_rfl) (by kernel_rfl) (by kernel_rfl) (fun _ _ _ h => h) (fun o ho w hS => ?y14_1_13) (by assumption) ?r14_1_13
      case y14_1_13 => (try dsimp only at hS); unfold execOp; simp only [ho]; go_simp; try with_reducible rfl
      try simp only [Act.put, List.setIfInBounds_toArray, List.set_cons_zero, List.set_cons_succ]
      refine held_load 12 (some 93) 55 (.tmp 8) (by rfl) (by kernel_rfl) (by kernel_rfl) (by kernel_rfl) (wo.heap.size) 55 #[.int .i64 gate, .int .i64 seq, .int .i64 ser, .int .i64 cnt, .int .i64 prod, .int .i64 lift, .int .i64 att] (fun _ _ _ h => h) (by rfl) (fun _ h => h.1) _ Try.underlying55 rfl (by kernel_rfl) (by assumption) ?_
      try simp only [Act.put, List.setIfInBounds_toArray, List.set_cons_zero, List.set_cons_succ]
      refine held_run 13 (some 94) (.fieldAddr 30 (.tmp 2) 2) ?v14_1_15 (by rfl) (by kernel_rfl) (by kernel_rfl) (by kernel_rfl) (fun _ _ _ h => h) (fun o ho w hS => ?y14_1_15) (by assumption) ?r14_1_15
      case y14_1_15 => (try dsimp only at hS); unfold execOp; simp only [ho]; go_simp; try with_reducible rfl
      try simp only [Act.put, List.setIfInBounds_toArray, List.set_cons_zero, List.set_cons_succ]
      refine held_run 14 (some 95) (.load 28 (.tmp 94)) ?v14_1_16 (by rfl) (by kernel_rfl) (by kernel_rfl) (by kernel_rfl) (fun _ _ _ h => h) (fun o ho w hS => ?y14_1_16) (by assumption) ?r14_1_16
      case y14_1_16 => (try dsimp only at hS); unfold execOp; simp only [ho]; go_simp; try with_reducible rfl
      try simp only [Act.put, List.setIfInBounds_toArray, List.set_cons_zero, List.set_cons_succ]
      refine held_run 15 (some 96) (.fieldAddr 55 (.tmp 8) 1) ?v14_1_17 (by rfl) (by kernel_rfl) (by kernel_rfl) (by kernel_rfl) (fun _ _ _ h => h) (fun o ho w hS => ?y14_1_17) (by assumption) ?r14_1_17
      case y14_1_17 => (try dsimp only at hS); unfold execOp; simp only [ho]; go_simp; try with_reducible rfl
      try simp only [Act.put, List.setIfInBounds_toArray, List.set_cons_zero, List.set_cons_succ]
      refine held_run 16 (some 97) (.load 3 (.tmp 96)) ?v14_1_18 (by rfl) (by kernel_rfl) (by kernel_rfl) (by kernel_rfl) (fun _ _ _ h => h) (fun o ho w hS => ?y14_1_18) (by assumption) ?r14_1_18
      case y14_1_18 => (try dsimp only at hS); unfold execOp; simp only [ho]; go_simp; try with_reducible rfl
      try simp only [Act.put, List.setIfInBounds_toArray, List.set_cons_zero, List.set_cons_succ]
      refine held_run 17 (some 98) (.move (.tmp 5)) ?v14_1_19 (by rfl) (by kernel_rfl) (by kernel_rfl) (by kernel_rfl) (fun _ _ _ h => h) (fun o ho w hS => ?y14_1_19) (by assumption) ?r14_1_19
      case y14_1_19 => (try dsimp only at hS); unfold execOp; simp only [ho]; go_simp; try with_reducible rfl
      try simp only [Act.put, List.setIfInBounds_toArray, List.set_cons_zero, List.set_cons_succ]
      refine held_run 18 (some 99) (.binOp .sub 3 (.tmp 97) (.tmp 98) 3) ?v14_1_20 (by rfl) (by kernel_rfl) (by kernel_rfl) (by kernel_rfl) (fun _ _ _ h => h) (fun o ho w hS => ?y14_1_20) (by assumption) ?r14_1_20
      case y14_1_20 => (try dsimp only at hS); unfold execOp; simp only [ho]; go_simp; try with_reducible rfl
      try simp only [Act.put, List.setIfInBounds_toArray, List.set_cons_zero, List.set_cons_succ]
      refine held_run 19 (some 100) (.indexAddr 28 (.tmp 95) (.tmp 99)) ?v14_1_21 (by rfl) (by kernel_rfl) (by kernel_rfl) (by kernel_rfl) (fun _ _ _ h => h) (fun o ho w hS => ?y14_1_21) (by assumption) ?r14_1_21
      case y14_1_21 => (try dsimp only at hS); unfold execOp; simp only [ho]; go_simp; try with_reducible rfl
      try simp only [Act.put, List.setIfInBounds_toArray, List.set_cons_zero, List.set_cons_succ]
      refine held_load_at 20 (some 101) 55 (.tmp 100) (by rfl) (by kernel_rfl) (by kernel_rfl) (by kernel_rfl) ((adm.add (m * 7))) ([.int .i64 gate, .int .i64 seq, .int .i64 ser, .int .i64 cnt, .int .i64 prod, .int .i64 lift, .int .i64 att] : List Value) (fun _ _ _ h => h) (by rfl) (fun _ h => h.2.2.2.2) _ Try.underlying55 rfl (by kernel_rfl) (by assumption) ?_
      try simp only [Act.put, List.setIfInBounds_toArray, List.set_cons_zero, List.set_cons_succ]
      refine held_run 21 (some 102) (.binOp .neq 55 (.tmp 93) (.tmp 101) 55) ?v14_1_23 (by rfl) (by kernel_rfl) (by kernel_rfl) (by kernel_rfl) (fun _ _ _ h => h) (fun o ho w hS => ?y14_1_23) (by assumption) ?r14_1_23
      case y14_1_23 => (try dsimp only at hS); unfold execOp; simp only [ho]; go_simp; try with_reducible rfl
      try simp only [Act.put, List.setIfInBounds_toArray, List.set_cons_zero, List.set_cons_succ]
      refine held_run 22 (some 103) (.pick (.tmp 92) (.const (Value.bool true)) (.tmp 102)) ?v14_1_24 (by rfl) (by kernel_rfl) (by kernel_rfl) (by kernel_rfl) (fun _ _ _ h => h) (fun o ho w hS => ?y14_1_24) (by assumption) ?r14_1_24
      case y14_1_24 => (try dsimp only at hS); unfold execOp; simp only [ho]; go_simp; try with_reducible rfl
      try simp only [Act.put, List.setIfInBounds_toArray, List.set_cons_zero, List.set_cons_succ]
      refine wpAnyH_done (by kernel_rfl) ?_ _
      have HB4d : Hid (Below w3.heap.size w3 w4.drew) := hide HB4.out.drew
      have z1 : w4.drew.cell? ⟨wo.heap.size, 1, none⟩ = some (.int .i64 seq) := HS.out.2.1
      go_wp2_with fail
      go_roundw
      case rel => exact ⟨k + 1, by omega, by go_num, by rw [HL2.out], HB4d.out⟩
      case measure => simp [intOf]; omega
    · obtain rfl : k = en := by omega
      go_wp2_with fail
      try go_ret
      exact HFin.out _ HBo.out
end Go.Proofs.Ytedeggjefnpjgaa
