/-
  SweepEmpties answers true for every input. Its conditions: none. (One heavy walk.)
-/
import Derived.Test.YticoeibccdplaaaRows
import Derived.Test.YticoeibccdplaaaRowS
import Derived.Test.YticoeibccdplaaaSwpR
import Derived.Test.YticoeibccdplaaaSwpX
import Derived.Test.YticoeibccdplaaaSwpZ
import Derived.Test.YticoeibccdplaaaSwpEm
namespace Go.Proofs.Yticoeibccdplaaa
open Go.ChangeShapes Go.WideShapes Go.ChangeAt Go.RowKit

/-! ### the sum -/
def SumR (l : List Int) (w : World) (e : Ending) (w' : World) : Prop := ∃ (s : Int) (b : Bool), e = .returned (.tuple #[.int .i64 s, .bool b]) ∧ (b = true → ∀ z ∈ l, 0 ≤ z ∧ z ≤ 1000000) ∧ ((∀ z ∈ l, 0 ≤ z ∧ z ≤ 1000000) → b = true) ∧ (b = true → l.length ≤ 1000 → s = l.sum) ∧ w = w'
theorem sumR_no {l : List Int} {w : World} (h : ¬ ∀ z ∈ l, 0 ≤ z ∧ z ≤ 1000000) : SumR l w (.returned (.tuple #[.int .i64 0, .bool false])) w := ⟨0, false, rfl, fun h => Bool.noConfusion h, fun g => absurd g h, fun h => Bool.noConfusion h, rfl⟩
theorem sumR_ok {l : List Int} {s : Int} {w : World} (h : ∀ z ∈ l, 0 ≤ z ∧ z ≤ 1000000) (hs : l.length ≤ 1000 → s = l.sum) : SumR l w (.returned (.tuple #[.int .i64 s, .bool true])) w := ⟨s, true, rfl, fun _ => h, fun _ => rfl, fun _ => hs, rfl⟩
theorem all_of {l : List Int} {p : Int → Prop} (h : ∀ j, j < l.length → p (l.getD j 0)) : ∀ z ∈ l, p z := fun z hz => by
  obtain ⟨k, hk, rfl⟩ := at_mem hz
  exact h k hk
set_option maxRecDepth 100000 in
set_option maxHeartbeats 4000000 in
theorem sum_any (v : Value) (l : List Int) (w : World) (hr : RowV w w.heap.size v l) : Calls Try.prog 32 #[v] w (SumR l w) := by
  obtain ⟨A, n, c, rfl, HL, h1, h2, hr⟩ := hr.nam
  have HR := Lib.hid hr
  have hn : n ≤ maxLen := Nat.le_trans h1 h2
  unfold maxLen at hn
  clear hr h1 h2
  go_enter Try.func32, Try.ntmps32
  go_wp2_with fail
  go_loop [4, 5] (fun vs vi => ∃ (k : Nat) (s : Int), k ≤ n ∧ vi = .int .i64 k ∧ vs = .int .i64 s ∧ (∀ j, j < k → 0 ≤ l.getD j 0 ∧ l.getD j 0 ≤ 1000000) ∧ (n ≤ 1000 → s = (l.take k).sum ∧ 0 ≤ s ∧ s ≤ 1000000 * k)) (fun _ vi => n - (intOf vi).toNat)
  case atStart => exact ⟨0, 0, by omega, rfl, rfl, fun j hj => absurd hj (by omega), fun _ => ⟨by simp, by omega, by omega⟩⟩
  case round =>
    obtain ⟨k, s, hk, rfl, rfl, hj, hs⟩ := hrel
    have HJ := Lib.hid hj
    have HS := Lib.hid hs
    clear hj hs
    by_cases hlt : k < n
    · obtain ⟨ad, rfl, _, hc⟩ := HR.out.int hlt
      have hm : l.getD k 0 ∈ l := mem_at (by rw [HL.out]; exact hlt)
      have HT : Hid ((l.take (k + 1)).sum = (l.take k).sum + l.getD k 0) := hide (sum_take l k (by rw [HL.out]; exact hlt))
      have HN : Hid (0 ≤ l.getD k 0 → l.getD k 0 ≤ 1000000 → ∀ j, j < k + 1 → 0 ≤ l.getD j 0 ∧ l.getD j 0 ≤ 1000000) := fun g1 g2 j hj => by
        rcases Nat.lt_or_ge j k with h1 | h1
        · exact HJ.out j h1
        · obtain rfl : j = k := by omega
          exact ⟨g1, g2⟩
      generalize l.getD k 0 = x at *
      have HM := Lib.hid hm
      clear hm
      by_cases g1 : x < 0
      · go_wp2_with fail
        go_ret2
        exact sumR_no (fun h => by have := h x HM.out; omega)
      have d1 : decide (x < 0) = false := decide_eq_false g1
      by_cases g2 : 1000000 < x
      · go_wp2_with fail
        go_ret2
        exact sumR_no (fun h => by have := h x HM.out; omega)
      have d2 : decide (1000000 < x) = false := decide_eq_false g2
      obtain ⟨t, ht⟩ : ∃ t, IntKind.i64.wrap (s + x) = t := ⟨_, rfl⟩
      have HT2 : Hid (n ≤ 1000 → t = (l.take (k + 1)).sum ∧ 0 ≤ t ∧ t ≤ 1000000 * ((k + 1 : Nat) : Int)) := fun h => by
        obtain ⟨e1, e2, e3⟩ := HS.out h
        have hw : IntKind.i64.wrap (s + x) = s + x := IntWalk.i64_in _ (by omega)
        rw [← ht, hw, HT.out, ← e1]
        refine ⟨rfl, by omega, by omega⟩
      go_wp2_with fail
      go_round
      case rel => exact ⟨k + 1, t, by omega, by go_num, by first | rfl | rw [ht], HN.out (by omega) (by omega), HT2.out⟩
      case measure => simp [intOf]; omega
    · obtain rfl : k = n := by omega
      go_wp2_with fail
      go_ret2
      exact sumR_ok (all_of fun j hj => HJ.out j (by rw [← HL.out]; exact hj)) (fun h => by
        have e := (HS.out (by rw [← HL.out]; exact h)).1
        rw [e, List.take_of_length_le (by rw [HL.out]; exact Nat.le_refl _)])
set_option maxRecDepth 100000 in
set_option maxHeartbeats 40000000 in
theorem sweepEmpties_any (w : World) (vn vl vr vb : Value) (nd : List Nd) (lf : List Lf) (rs : List Rn) (bs : List Int) (hnd : StrV Nd.cells 2 w w.heap.size vn nd) (hlf : StrV Lf.cells 8 w w.heap.size vl lf) (hrs : StrV Rn.cells 7 w w.heap.size vr rs) (hbs : RowV w w.heap.size vb bs) (v1 v2 : Value) (bg : Int) (runs : List Int) (sw : List Sw) (hru : RowV w w.heap.size v1 runs) (hsw : StrV Sw.cells 4 w w.heap.size v2 sw) (peA : Option Addr) (pen pec : Nat) (pe : List Int) (pe1 : pen ≤ pec) (pe2 : pec ≤ maxLen) (per : Reads w w.heap.size 1 peA pen (pe.map (Value.int .i64))) (pew : ∀ z ∈ pe, (Lit.int .i64 z).wf = true) :
    Calls Try.prog 8 #[.agg #[vn, vl, vr, vb], .agg #[v1, v2, .int .i64 bg], .slice peA pen pec] w fun e w' => e = .returned (.bool true) ∧ Below w.heap.size w w' := by
  have HNd := Lib.hid hnd
  have HLf := Lib.hid hlf
  have HM := Lib.hid hrs
  have HBv := Lib.hid hbs
  have HR1 := Lib.hid hru
  have HR2 := Lib.hid hsw
  have HPe := Lib.hid (rowV_of per pe1 pe2)
  have HPi := Lib.hid per
  have _hw := pew
  clear _hw hnd hlf hrs hbs hru hsw pew per
  obtain ⟨A1, n1, c1, rfl, HL1, _, _, _⟩ := HR1.out.nam
  obtain ⟨A2, n2, c2, rfl, HL2, h21, h22, hr2⟩ := HR2.out.nam
  have HR2s := Lib.hid hr2
  have hn2 : n2 ≤ maxLen := Nat.le_trans h21 h22
  unfold maxLen at hn2
  clear hr2 h21 h22
  have HLp := Lib.hid HPi.out.ilen
  obtain ⟨r, hr⟩ : ∃ r, rightP rs bs runs bg sw = r := ⟨_, rfl⟩
  have HRr := Lib.hid hr
  have HCp : Hid (∀ W : World, StrV Rn.cells 7 W W.heap.size vr rs → RowV W W.heap.size vb bs → RowV W W.heap.size (.slice A1 n1 c1) runs → StrV Sw.cells 4 W W.heap.size (.slice A2 n2 c2) sw → Calls Try.prog 13 #[.agg #[vn, vl, vr, vb], .agg #[.slice A1 n1 c1, .slice A2 n2 c2, .int .i64 bg]] W fun e w' => e = .returned (.int .i64 r) ∧ Below W.heap.size W w') := fun W a1 a2 a3 a4 => hr ▸ right_any vn vl vr vb _ _ bg rs bs runs sw W a1 a2 a3 a4
  clear hr
  go_enter Try.func8, Try.ntmps8
  go_wp2_with fail
  have HBwz0 := (Blk.new w 27 #[vn, vl, vr, vb])
  have HLwz0 := (below_new w (.cells #[vn, vl, vr, vb] 27))
  have hswz0 : (w.alloc (.cells #[vn, vl, vr, vb] 27)).heap.size = w.heap.size + 1 := by simp
  generalize w.alloc (.cells #[vn, vl, vr, vb] 27) = wz0 at HBwz0 HLwz0 hswz0 ⊢
  replace HBwz0 := Lib.hid HBwz0
  replace HLwz0 := Lib.hid HLwz0
  have hlwz0 : w.heap.size < wz0.heap.size := by omega
  replace hswz0 := Lib.hid hswz0
  have HBwb := (Blk.new wz0 30 #[.slice A1 n1 c1, .slice A2 n2 c2, .int .i64 bg])
  have HLwb := (below_new wz0 (.cells #[.slice A1 n1 c1, .slice A2 n2 c2, .int .i64 bg] 30))
  have hswb : (wz0.alloc (.cells #[.slice A1 n1 c1, .slice A2 n2 c2, .int .i64 bg] 30)).heap.size = wz0.heap.size + 1 := by simp
  generalize wz0.alloc (.cells #[.slice A1 n1 c1, .slice A2 n2 c2, .int .i64 bg] 30) = wb at HBwb HLwb hswb ⊢
  replace HBwb := Lib.hid HBwb
  replace HLwb := Lib.hid HLwb
  have hlwb : wz0.heap.size < wb.heap.size := by omega
  replace hswb := Lib.hid hswb
  have HQ1 := Lib.hid (HLwz0.out.trans (HLwb.out.mono HLwz0.out.size))
  have HWb := Lib.hid (HQ1.out)
  have hl0 : w.heap.size ≤ wb.heap.size := HWb.out.size
  have HBb : Hid (Below wb.heap.size wb wb) := hide (Below.refl _ _)
  have hszb : wb.heap.size ≤ wb.heap.size := Nat.le_refl _
  have HZ0_1 := Lib.hid (HBwz0.out.below HLwb.out hlwz0)
  have hz0_1 : w.heap.size < wb.heap.size := HZ0_1.out.lt
  have HX0b : Hid (Blk wb w.heap.size 27 #[vn, vl, vr, vb]) := hide HZ0_1.out
  have hxx0 : w.heap.size < wb.heap.size := HX0b.out.lt
  have HX1b : Hid (Blk wb (w.heap.size + 1) 30 #[.slice A1 n1 c1, .slice A2 n2 c2, .int .i64 bg]) := hide (by have h := HBwb.out; rw [show wz0.heap.size = w.heap.size + 1 from by have := hswz0.out; omega] at h; exact h)
  have hxx1 : (w.heap.size + 1) < wb.heap.size := HX1b.out.lt
  clear HBwz0 HLwz0 hswz0 hlwz0
  clear HBwb HLwb hswb hlwb
  have HNdb := Lib.hid (HNd.out.now HWb.out)
  have HLfb := Lib.hid (HLf.out.now HWb.out)
  have HMb := Lib.hid (HM.out.now HWb.out)
  have HBvb := Lib.hid (HBv.out.now HWb.out)
  have HR1b := Lib.hid (HR1.out.now HWb.out)
  have HR2b := Lib.hid (HR2.out.now HWb.out)
  have HR2sb := Lib.hid (HR2s.out.now HWb.out)
  have HPeb := Lib.hid (HPe.out.now HWb.out)
  with_reducible refine (alive_any _).mono ?_
  rintro e w1 ⟨rfl, hb1⟩
  have HB1 := Lib.hid (HBb.out.trans (hb1.mono hszb))
  have HW1 := Lib.hid (HWb.out.trans (hb1.mono HWb.out.size))
  have hsz1 : wb.heap.size ≤ w1.heap.size := Nat.le_trans hszb hb1.size
  have HX01 := Lib.hid (HX0b.out.below hb1 (Nat.lt_of_lt_of_le hxx0 hszb))
  have HX11 := Lib.hid (HX1b.out.below hb1 (Nat.lt_of_lt_of_le hxx1 hszb))
  have HNd1 := Lib.hid (HNdb.out.now hb1)
  have HLf1 := Lib.hid (HLfb.out.now hb1)
  have HM1 := Lib.hid (HMb.out.now hb1)
  have HBv1 := Lib.hid (HBvb.out.now hb1)
  have HR11 := Lib.hid (HR1b.out.now hb1)
  have HR21 := Lib.hid (HR2b.out.now hb1)
  have HR2s1 := Lib.hid (HR2sb.out.now hb1)
  have HPe1 := Lib.hid (HPeb.out.now hb1)
  clear hb1
  go_wp2_with fail
  with_reducible refine (sum_any _ pe _ HPe1.out).mono ?_
  rintro e w' ⟨sm, sb, rfl, hs1, hs2, hs3, rfl⟩
  have HS1 := Lib.hid hs1
  have HS3 := Lib.hid hs3
  clear hs1 hs2 hs3
  go_wp2_with
    (first
     | (refine wpList_load_g 27 (.tmp 3) rfl rfl w.heap.size rfl _ _ HX01.out _ Try.underlying27 rfl (by kernel_rfl) ?_))
  with_reducible refine (tright_any vn vl vr vb nd lf rs bs _ HNd1.out HLf1.out HM1.out HBv1.out).mono ?_
  rintro e w2 ⟨r2, rfl, hr2, hb2⟩
  have HDn := Lib.hid hr2
  have HB2 := Lib.hid (HB1.out.trans (hb2.mono hsz1))
  have HW2 := Lib.hid (HW1.out.trans (hb2.mono HW1.out.size))
  have hsz2 : wb.heap.size ≤ w2.heap.size := Nat.le_trans hsz1 hb2.size
  have HX02 := Lib.hid (HX01.out.below hb2 (Nat.lt_of_lt_of_le hxx0 hsz1))
  have HX12 := Lib.hid (HX11.out.below hb2 (Nat.lt_of_lt_of_le hxx1 hsz1))
  have HNd2 := Lib.hid (HNd1.out.now hb2)
  have HLf2 := Lib.hid (HLf1.out.now hb2)
  have HM2 := Lib.hid (HM1.out.now hb2)
  have HBv2 := Lib.hid (HBv1.out.now hb2)
  have HR12 := Lib.hid (HR11.out.now hb2)
  have HR22 := Lib.hid (HR21.out.now hb2)
  have HR2s2 := Lib.hid (HR2s1.out.now hb2)
  have HPe2 := Lib.hid (HPe1.out.now hb2)
  clear hb2 hr2
  by_cases hz2 : r2 = 0
  rotate_left
  · have d0 : (r2 == 0) = false := beq_eq_false_iff_ne.2 hz2
    go_wp2_with fail
    go_ret
    exact ⟨rfl, HW2.out⟩
  have HDown := Lib.hid (HDn.out hz2)
  subst hz2
  clear HDn
  go_wp2_with
    (first
     | (refine wpList_load_g 27 (.tmp 3) rfl rfl w.heap.size rfl _ _ HX02.out _ Try.underlying27 rfl (by kernel_rfl) ?_)
     | (refine wpList_load_g 30 (.tmp 4) rfl rfl (w.heap.size + 1) rfl _ _ HX12.out _ Try.underlying30 rfl (by kernel_rfl) ?_))
  with_reducible refine (HCp.out _ HM2.out HBv2.out HR12.out HR22.out).mono ?_
  rintro e w3 ⟨rfl, hb3⟩
  have HB3 := Lib.hid (HB2.out.trans (hb3.mono hsz2))
  have HW3 := Lib.hid (HW2.out.trans (hb3.mono HW2.out.size))
  have hsz3 : wb.heap.size ≤ w3.heap.size := Nat.le_trans hsz2 hb3.size
  have HX03 := Lib.hid (HX02.out.below hb3 (Nat.lt_of_lt_of_le hxx0 hsz2))
  have HX13 := Lib.hid (HX12.out.below hb3 (Nat.lt_of_lt_of_le hxx1 hsz2))
  have HNd3 := Lib.hid (HNd2.out.now hb3)
  have HLf3 := Lib.hid (HLf2.out.now hb3)
  have HM3 := Lib.hid (HM2.out.now hb3)
  have HBv3 := Lib.hid (HBv2.out.now hb3)
  have HR13 := Lib.hid (HR12.out.now hb3)
  have HR23 := Lib.hid (HR22.out.now hb3)
  have HR2s3 := Lib.hid (HR2s2.out.now hb3)
  have HPe3 := Lib.hid (HPe2.out.now hb3)
  clear hb3
  by_cases hz3 : r = 0
  rotate_left
  · have d0 : (r == 0) = false := beq_eq_false_iff_ne.2 hz3
    go_wp2_with fail
    go_ret
    exact ⟨rfl, HW3.out⟩
  have HR0 : Hid (rightP rs bs runs bg sw = 0) := hide (HRr.out.trans hz3)
  subst hz3
  obtain ⟨hlen, hall, hlow, hchk, hlen2, h1e⟩ := right_says ((right_eq rs bs runs bg sw).symm.trans HR0.out)
  cases sb with
  | false =>
    go_wp2_with fail
    go_ret
    exact ⟨rfl, HW3.out⟩
  | true =>
    have s0 : w3.cell? ⟨w.heap.size + 1, 0, none⟩ = some (.slice A1 n1 c1) := HX13.out.cell 0
    have s1 : w3.cell? ⟨w.heap.size + 1, 1, none⟩ = some (.slice A2 n2 c2) := HX13.out.cell 1
    have s2 : w3.cell? ⟨w.heap.size + 1, 2, none⟩ = some (.int .i64 bg) := HX13.out.cell 2
    by_cases hpl : pen = n1
    rotate_left
    · have d0 : ((pen : Int) == (n1 : Int)) = false := beq_eq_false_iff_ne.2 (by omega)
      have d1 : (pen : Int) ≠ (n1 : Int) := by omega
      go_wp2_with fail
      go_ret
      exact ⟨rfl, HW3.out⟩
    subst hpl
    by_cases hsm : 1000000 < sm
    · go_wp2_with fail
      go_ret
      exact ⟨rfl, HW3.out⟩
    have ds : decide (1000000 < sm) = false := decide_eq_false hsm
    have hpr := HS1.out (by simp)
    have hpel : pe.length = runs.length := by rw [HLp.out, HL1.out]
    have hsum : sm = pe.sum := HS3.out (by simp) (by omega)
    have hn0 : ∀ z ∈ pe, 0 ≤ z := fun z hz => (hpr z hz).1
    have hnd : runs.Nodup := inc_nodup (inc_runs h1e)
    have hlowP : ∀ x ∈ runs, outP rs bs x = false → 0 ≤ lowI (befP rs) runs x := fun x hx ho => by rw [← low_eq hall hx]; exact hlow x hx (by rw [out_eq (hall x hx)]; exact ho)
    have hform : formB runs pe = true := by unfold formB; simp only [Bool.and_eq_true, decide_eq_true_eq, List.all_eq_true]; exact ⟨hpel, fun z hz => hpr z hz⟩
    have HInv : Hid (∀ L, Topo (befP rs) runs L → ∀ i, i ≤ L.length → (allGo (befP rs) (outP rs bs) runs (L.take i) pe 0).1.length = runs.length ∧ (∀ z ∈ (allGo (befP rs) (outP rs bs) runs (L.take i) pe 0).1, 0 ≤ z) ∧ 0 ≤ (allGo (befP rs) (outP rs bs) runs (L.take i) pe 0).2 ∧ (allGo (befP rs) (outP rs bs) runs (L.take i) pe 0).1.sum + (allGo (befP rs) (outP rs bs) runs (L.take i) pe 0).2 = sm) := fun L hT i hi => by
      obtain ⟨a, b, c, d, _⟩ := topo_inv HDown.out hall hnd hlowP hT hpel hn0 i hi
      exact ⟨a, b, c, by rw [d, hsum]⟩
    have HEnd : Hid (∀ L, Topo (befP rs) runs L → (∀ x ∈ runs, x ∈ L) → (allGo (befP rs) (outP rs bs) runs L pe 0).1.sum = 0 ∧ (allGo (befP rs) (outP rs bs) runs L pe 0).2 = sm) := fun L hT hc => by
      obtain ⟨a, b⟩ := topo_end HDown.out hall hnd hlowP hT hpel hn0 hc
      exact ⟨a, by rw [b, hsum]⟩
    have HCo : Hid (∀ x ∈ runs, x ∈ ordN (befP rs) runs) := hide (covers ord_nodup ord_sub (ord_full HDown.out hall hnd))
    have hlim : runs.length ≤ 1000 := by omega
    have hlim2 : sw.length ≤ 1000 := by omega
    have HForm := Lib.hid hform
    have HLenP := Lib.hid hpel
    have HAl : Hid (∀ W : World, StrV Rn.cells 7 W W.heap.size vr rs → RowV W W.heap.size vb bs → RowV W W.heap.size (.slice A1 pen c1) runs → RowV W W.heap.size (.slice peA pen pec) pe → Calls Try.prog 30 #[.agg #[vn, vl, vr, vb], .agg #[.slice A1 pen c1, .slice A2 n2 c2, .int .i64 bg], .slice peA pen pec] W fun e w' => e = .returned (.tuple #[.int .i64 sm, .int .i64 0, .int .i64 0]) ∧ Below W.heap.size W w') := fun W a1 a2 a3 a4 => by
      refine (all_any vn vl vr vb _ _ _ bg rs bs runs pe sw W a1 a2 a3 a4 hlim).mono ?_
      rintro e w' ⟨hb, ⟨h, _⟩ | ⟨_, rfl⟩⟩
      · rw [HForm.out] at h
        cases h
      · obtain ⟨a, b⟩ := HEnd.out _ topo_ord HCo.out
        rw [a, b]
        exact ⟨rfl, hb⟩
    have HOrd : Hid (∀ W : World, StrV Rn.cells 7 W W.heap.size vr rs → RowV W W.heap.size (.slice A1 pen c1) runs → Calls Try.prog 17 #[.agg #[vn, vl, vr, vb], .agg #[.slice A1 pen c1, .slice A2 n2 c2, .int .i64 bg]] W fun e w' => ∃ v, e = .returned v ∧ RowV w' w'.heap.size v (ordN (befP rs) runs) ∧ Below W.heap.size W w') := fun W a1 a2 => by
      refine (order_any vn vl vr vb _ _ bg rs runs [] W a1 a2 hlim).mono ?_
      rintro e w' ⟨v, rfl, ho, hb⟩
      exact ⟨v, rfl, ho.rowV, hb⟩
    have HTs : Hid (Topo (befP rs) runs (sw.map Sw.run)) := hide (topo_swept (bg := bg) fun k hk => by rw [← chk3_eq hall]; exact hchk k hk)
    obtain ⟨db, hdb⟩ : ∃ b, doneB runs sw = b := ⟨_, rfl⟩
    have HDb := Lib.hid hdb
    have HDc : Hid (∀ W : World, RowV W W.heap.size (.slice A1 pen c1) runs → StrV Sw.cells 4 W W.heap.size (.slice A2 n2 c2) sw → Calls Try.prog 24 #[.agg #[.slice A1 pen c1, .slice A2 n2 c2, .int .i64 bg]] W fun e w' => e = .returned (.bool db) ∧ Below W.heap.size W w') := fun W a1 a2 => hdb ▸ done_any _ _ bg runs sw W a1 a2 hlim2
    have HSl := Lib.hid hlim2
    have HRl := Lib.hid hlim
    clear hpr hpel hsum hn0 hnd hlowP hform hlen hall hlow hchk hlen2 h1e hdb
    go_wp2_with
      (first
       | (refine wpList_load_g 27 (.tmp 3) rfl rfl w.heap.size rfl _ _ HX03.out _ Try.underlying27 rfl (by kernel_rfl) ?_)
       | (refine wpList_load_g 30 (.tmp 4) rfl rfl (w.heap.size + 1) rfl _ _ HX13.out _ Try.underlying30 rfl (by kernel_rfl) ?_))
    with_reducible refine (HAl.out _ HM3.out HBv3.out HR13.out HPe3.out).mono ?_
    rintro e w4 ⟨rfl, hb4⟩
    have HB4 := Lib.hid (HB3.out.trans (hb4.mono hsz3))
    have HW4 := Lib.hid (HW3.out.trans (hb4.mono HW3.out.size))
    have hsz4 : wb.heap.size ≤ w4.heap.size := Nat.le_trans hsz3 hb4.size
    have HX04 := Lib.hid (HX03.out.below hb4 (Nat.lt_of_lt_of_le hxx0 hsz3))
    have HX14 := Lib.hid (HX13.out.below hb4 (Nat.lt_of_lt_of_le hxx1 hsz3))
    have HNd4 := Lib.hid (HNd3.out.now hb4)
    have HLf4 := Lib.hid (HLf3.out.now hb4)
    have HM4 := Lib.hid (HM3.out.now hb4)
    have HBv4 := Lib.hid (HBv3.out.now hb4)
    have HR14 := Lib.hid (HR13.out.now hb4)
    have HR24 := Lib.hid (HR23.out.now hb4)
    have HR2s4 := Lib.hid (HR2s3.out.now hb4)
    have HPe4 := Lib.hid (HPe3.out.now hb4)
    clear hb4
    clear s0 s1 s2
    have g1 : (sm == sm) = true := beq_self_eq_true sm
    go_wp2_with
      (first
       | (refine wpList_load_g 27 (.tmp 3) rfl rfl w.heap.size rfl _ _ HX04.out _ Try.underlying27 rfl (by kernel_rfl) ?_)
       | (refine wpList_load_g 30 (.tmp 4) rfl rfl (w.heap.size + 1) rfl _ _ HX14.out _ Try.underlying30 rfl (by kernel_rfl) ?_))
    with_reducible refine (HOrd.out _ HM4.out HR14.out).mono ?_
    rintro e w5 ⟨vo, rfl, ho, hb5⟩
    have HO5 := Lib.hid ho
    have HB5 := Lib.hid (HB4.out.trans (hb5.mono hsz4))
    have HW5 := Lib.hid (HW4.out.trans (hb5.mono HW4.out.size))
    have hsz5 : wb.heap.size ≤ w5.heap.size := Nat.le_trans hsz4 hb5.size
    have HX05 := Lib.hid (HX04.out.below hb5 (Nat.lt_of_lt_of_le hxx0 hsz4))
    have HX15 := Lib.hid (HX14.out.below hb5 (Nat.lt_of_lt_of_le hxx1 hsz4))
    have HNd5 := Lib.hid (HNd4.out.now hb5)
    have HLf5 := Lib.hid (HLf4.out.now hb5)
    have HM5 := Lib.hid (HM4.out.now hb5)
    have HBv5 := Lib.hid (HBv4.out.now hb5)
    have HR15 := Lib.hid (HR14.out.now hb5)
    have HR25 := Lib.hid (HR24.out.now hb5)
    have HR2s5 := Lib.hid (HR2s4.out.now hb5)
    have HPe5 := Lib.hid (HPe4.out.now hb5)
    clear hb5 ho
    go_wp2_with
      (first
       | (refine wpList_load_g 30 (.tmp 4) rfl rfl (w.heap.size + 1) rfl _ _ HX15.out _ Try.underlying30 rfl (by kernel_rfl) ?_))
    with_reducible refine (HDc.out _ HR15.out HR25.out).mono ?_
    rintro e w6 ⟨rfl, hb6⟩
    have HB6 := Lib.hid (HB5.out.trans (hb6.mono hsz5))
    have HW6 := Lib.hid (HW5.out.trans (hb6.mono HW5.out.size))
    have hsz6 : wb.heap.size ≤ w6.heap.size := Nat.le_trans hsz5 hb6.size
    have HX06 := Lib.hid (HX05.out.below hb6 (Nat.lt_of_lt_of_le hxx0 hsz5))
    have HX16 := Lib.hid (HX15.out.below hb6 (Nat.lt_of_lt_of_le hxx1 hsz5))
    have HNd6 := Lib.hid (HNd5.out.now hb6)
    have HLf6 := Lib.hid (HLf5.out.now hb6)
    have HM6 := Lib.hid (HM5.out.now hb6)
    have HBv6 := Lib.hid (HBv5.out.now hb6)
    have HR16 := Lib.hid (HR15.out.now hb6)
    have HR26 := Lib.hid (HR25.out.now hb6)
    have HR2s6 := Lib.hid (HR2s5.out.now hb6)
    have HPe6 := Lib.hid (HPe5.out.now hb6)
    have HO6 := Lib.hid (HO5.out.now hb6)
    clear hb6
    go_upto_if 77 with (fail)
    go_cut [12] (fun s wx => ∃ L : List Int, RowV wx wx.heap.size s L ∧ Topo (befP rs) runs L ∧ (∀ x ∈ runs, x ∈ L) ∧ (∀ x ∈ L, x ∈ runs) ∧ Below w6.heap.size w6 wx)
    case first =>
      cases db with
      | false =>
        go_wp2_with fail
        go_meet
        exact ⟨_, HO6.out, topo_ord, HCo.out, ord_sub, Below.refl _ _⟩
      | true =>
        go_wp2_with fail
        go_loopw [12, 13] (fun v i wr => ∃ k : Nat, k ≤ n2 ∧ i = .int .i64 k ∧ OwnI wr w6.heap.size v ((sw.take k).map Sw.run) ∧ Below w6.heap.size w6 wr) (fun _ i _ => n2 - (intOf i).toNat)
        case atStart => exact ⟨0, by omega, rfl, OwnI.nil _ _, Below.refl _ _⟩
        case round =>
          obtain ⟨k, hk, rfl, hO, hbr⟩ := hrel
          obtain ⟨wo, rfl⟩ : ∃ wo : World, wo = wr := ⟨_, rfl⟩
          have HOw := Lib.hid hO
          obtain ⟨Av, nv, cv, rfl, HLv, hv1, hv2, _⟩ := hO.nam
          have hnv : nv ≤ k := by rw [← HLv.out]; simp; omega
          have HBr := Lib.hid hbr
          have hsr := hbr.size
          have HRx := Lib.hid (HR2s6.out.now hbr)
          have HXx := Lib.hid (HX16.out.below hbr (Nat.lt_of_lt_of_le hxx1 hsz6))
          clear hO hbr
          by_cases hlt : k < n2
          · obtain ⟨ad, rfl, hab, hcs⟩ := strs_at HRx.out (fun _ => rfl) HL2.out hlt sw0
            have HS : Hid ((sw.take (k + 1)).map Sw.run = (sw.take k).map Sw.run ++ [(sw.getD k sw0).run]) := hide (by rw [gen_take sw sw0 k (by rw [HL2.out]; exact hlt), List.map_append]; rfl)
            generalize sw.getD k sw0 = b at *
            obtain ⟨run, byy, att, fnd⟩ := b
            have f0 : wo.cell? (ad.add (k * 4)) = some (.int .i64 run) := by
              have h := hcs 0 _ rfl
              rwa [show (ad.add (k * 4)).add 0 = ad.add (k * 4) by unfold Addr.add; simp] at h
            clear hcs
            generalize (sw.take k).map Sw.run = T at *
            have hk1000 : k < 1000 := by have := HSl.out; rw [HL2.out] at this; omega
            have x1 : wo.cell? ⟨w.heap.size + 1, 1, none⟩ = some (.slice (some ad) n2 c2) := HXx.out.cell 1
            go_wp2_with
              (at_builtin
               refine wpList_app_lit ei_ints rfl (.tmp 85) (.tmp 92) rfl w6.heap.size (.slice Av nv cv) nv (T.map (Value.int .i64)) rfl (HOw.out.row HLv.out) 1 rfl rfl (by simp [Value.oneCell']) (by simp only [maxLen]; omega) (by omega) hsr ?_
               intro v2 wp hown2 hb2 _ _
               have HO2 : Hid (OwnI wp w6.heap.size v2 (T ++ [run])) := hide (OwnI.mk' hown2 (by rw [List.length_append, HLv.out]; rfl) (by simp))
               have HB2 := Lib.hid (HBr.out.trans hb2)
               clear hown2 hb2)
            go_roundw
            case rel => exact ⟨k + 1, by omega, by go_num, by rw [HS.out]; exact HO2.out, HB2.out⟩
            case measure => simp [intOf]; omega
          · obtain rfl : k = n2 := by omega
            rw [List.take_of_length_le (by rw [HL2.out]; exact Nat.le_refl _)] at HOw
            have x1 : wo.cell? ⟨w.heap.size + 1, 1, none⟩ = some (.slice A2 k c2) := HXx.out.cell 1
            go_wp2_with fail
            go_meet
            refine ⟨_, HOw.out.rowV, HTs.out, fun x hx => ?_, fun x hx => ?_, HBr.out⟩
            · have h := HDb.out
              unfold doneB at h
              rw [List.all_eq_true] at h
              simpa using h x hx
            · obtain ⟨i, hi, he⟩ := at_mem hx
              have h2 := (ready_mem (HTs.out i hi)).1
              rwa [he] at h2
    obtain ⟨L, hL, hT, hcov, hsub, hcut⟩ := hcut
    obtain ⟨AL, nL, cL, hLe, HLL, hL1, hL2, _⟩ := hL.nam
    subst hLe
    have HLr := Lib.hid hL
    have hnL : nL ≤ maxLen := Nat.le_trans hL1 hL2
    unfold maxLen at hnL
    have HBc := Lib.hid (HB6.out.trans (hcut.mono hsz6))
    have HWc := Lib.hid (HW6.out.trans (hcut.mono HW6.out.size))
    have hszc : wb.heap.size ≤ wc.heap.size := Nat.le_trans hsz6 hcut.size
    have HX0c := Lib.hid (HX06.out.below hcut (Nat.lt_of_lt_of_le hxx0 hsz6))
    have HX1c := Lib.hid (HX16.out.below hcut (Nat.lt_of_lt_of_le hxx1 hsz6))
    have HNdc := Lib.hid (HNd6.out.now hcut)
    have HLfc := Lib.hid (HLf6.out.now hcut)
    have HMc := Lib.hid (HM6.out.now hcut)
    have HBvc := Lib.hid (HBv6.out.now hcut)
    have HR1c := Lib.hid (HR16.out.now hcut)
    have HR2c := Lib.hid (HR26.out.now hcut)
    have HR2sc := Lib.hid (HR2s6.out.now hcut)
    have HPec := Lib.hid (HPe6.out.now hcut)
    clear hcut hL hL1 hL2
    have hwc : wc = wc := rfl
    have HI := Lib.hid (HInv.out L hT)
    have HE := Lib.hid (HEnd.out L hT hcov)
    have HSub := Lib.hid hsub
    clear hT hcov hsub
    obtain ⟨G, hG⟩ : ∃ G : List Int → List Int × Int, G = fun l => allGo (befP rs) (outP rs bs) runs l pe 0 := ⟨_, rfl⟩
    have HI' : Hid (∀ i, i ≤ L.length → (G (L.take i)).1.length = runs.length ∧ (∀ z ∈ (G (L.take i)).1, 0 ≤ z) ∧ 0 ≤ (G (L.take i)).2 ∧ (G (L.take i)).1.sum + (G (L.take i)).2 = sm) := hide (by rw [hG]; exact HI.out)
    have HE' : Hid ((G L).2 = sm) := hide (by rw [hG]; exact HE.out.2)
    have HSn : Hid (∀ (l : List Int) (x : Int), G (l ++ [x]) = ((pushN (befP rs) (outP rs bs) runs (G l).1 (indI runs x).toNat).1, (G l).2 + (pushN (befP rs) (outP rs bs) runs (G l).1 (indI runs x).toNat).2)) := hide (by rw [hG]; exact fun l x => allGo_snoc x l pe 0)
    have HG0 : Hid (G [] = (pe, 0)) := hide (by rw [hG]; rfl)
    clear HI HE hG
    go_wp2_with fail
    go_loopw [14, 15, 16] (fun vnow vgone vi wr => ∃ k : Nat, k ≤ nL ∧ vi = .int .i64 k ∧ vgone = .int .i64 (G (L.take k)).2 ∧ RowV wr wr.heap.size vnow (G (L.take k)).1 ∧ RowV wr wr.heap.size (.slice AL nL cL) L ∧ Below wb.heap.size wb wr) (fun _ _ vi _ => nL - (intOf vi).toNat)
    case atStart => exact ⟨0, by omega, rfl, by rw [List.take_zero, HG0.out], by rw [List.take_zero, HG0.out]; exact HPec.out, HLr.out, HBc.out⟩
    case round =>
      obtain ⟨k, hk, rfl, rfl, hnow, hLr, hbr⟩ := hrel
      have HNow := Lib.hid hnow
      have HLr := Lib.hid hLr
      clear hnow hLr HNdc HLfc HMc HBvc HR1c HR2c HR2sc HPec HBc HWc HX0c HX1c hszc
      obtain ⟨wo, rfl⟩ : ∃ wo : World, wo = wr := ⟨_, rfl⟩
      have HBo := Lib.hid (HBb.out.trans (hbr.mono hszb))
      have HWo := Lib.hid (HWb.out.trans (hbr.mono HWb.out.size))
      have hszo : wb.heap.size ≤ wo.heap.size := Nat.le_trans hszb hbr.size
      have HX0o := Lib.hid (HX0b.out.below hbr (Nat.lt_of_lt_of_le hxx0 hszb))
      have HX1o := Lib.hid (HX1b.out.below hbr (Nat.lt_of_lt_of_le hxx1 hszb))
      have HNdo := Lib.hid (HNdb.out.now hbr)
      have HLfo := Lib.hid (HLfb.out.now hbr)
      have HMo := Lib.hid (HMb.out.now hbr)
      have HBvo := Lib.hid (HBvb.out.now hbr)
      have HR1o := Lib.hid (HR1b.out.now hbr)
      have HR2o := Lib.hid (HR2b.out.now hbr)
      have HR2so := Lib.hid (HR2sb.out.now hbr)
      have HPeo := Lib.hid (HPeb.out.now hbr)
      clear hbr
      obtain ⟨q1, q2, q3, q4⟩ := HI'.out k (by rw [HLL.out]; exact hk)
      by_cases hlt : k < nL
      rotate_left
      · obtain rfl : k = nL := by omega
        have hz : (G (L.take k)).2 = sm := by rw [List.take_of_length_le (by rw [HLL.out]; exact Nat.le_refl _)]; exact HE'.out
        rw [hz]
        have g2 : (sm == sm) = true := beq_self_eq_true sm
        go_wp2_with fail
        go_ret
        exact ⟨rfl, HWo.out⟩
      obtain ⟨ad, rfl, hab, hc⟩ := (show Ints wo wo.heap.size AL nL L from by obtain ⟨A', n', c', he, _, _, _, h⟩ := HLr.out.nam; injection he with e1 e2 e3; subst e1 e2; exact h).int hlt
      have hxm : L.getD k 0 ∈ runs := HSub.out _ (mem_at (by rw [HLL.out]; exact hlt))
      have HTk : Hid (G (L.take (k + 1)) = _) := hide ((congrArg G (take_at L k (by rw [HLL.out]; exact hlt))).trans (HSn.out _ _))
      obtain ⟨j, hj, hjl, hjx⟩ := ind_of hxm
      obtain ⟨p1, p2, p3, p4⟩ := HI'.out (k + 1) (by rw [HLL.out]; omega)
      rw [HTk.out, hj, show ((j : Int)).toNat = j from rfl] at p1 p2 p3 p4
      rw [hj, show ((j : Int)).toNat = j from rfl] at HTk
      generalize L.getD k 0 = x at *
      generalize G (L.take k) = S at *
      obtain ⟨P, gone⟩ := S
      simp only at q1 q2 q3 q4 p1 p2 p3 p4 HTk HNow ⊢
      have hle := le_sum q2
      have hformP : formB runs P = true := by unfold formB; simp only [Bool.and_eq_true, decide_eq_true_eq, List.all_eq_true]; exact ⟨q1, fun z hz => ⟨q2 z hz, by have := hle z hz; omega⟩⟩
      obtain ⟨k1, k2, k3, k4⟩ := push_keep (bef := befP rs) (out := outP rs bs) q1 hjl q2
      have HPu : Hid (∀ (vq : Value) (W : World), StrV Rn.cells 7 W W.heap.size vr rs → RowV W W.heap.size vb bs → RowV W W.heap.size (.slice A1 pen c1) runs → RowV W W.heap.size vq P → Calls Try.prog 28 #[.agg #[vn, vl, vr, vb], .agg #[.slice A1 pen c1, .slice A2 n2 c2, .int .i64 bg], vq, .int .i64 x] W fun e w' => ∃ v, e = .returned (.tuple #[v, .int .i64 (pushN (befP rs) (outP rs bs) runs P j).2, .int .i64 0]) ∧ RowV w' w'.heap.size v (pushN (befP rs) (outP rs bs) runs P j).1 ∧ Below W.heap.size W w') := fun vq W a1 a2 a3 a4 => by
        refine (Push_any vn vl vr vb _ _ vq bg rs bs runs P x W a1 a2 a3 a4 HRl.out).mono ?_
        rintro e w' ⟨hb, ⟨h, _⟩ | ⟨_, h, _⟩ | ⟨_, j', v, _, _, hj', rfl, ho⟩⟩
        · rw [hformP] at h; cases h
        · exact absurd h (by simpa using hxm)
        · have hjj : j' = j := by have := hj'.symm.trans hj; omega
          subst hjj
          exact ⟨v, rfl, ho.rowV, hb⟩
      generalize pushN (befP rs) (outP rs bs) runs P j = q at *
      obtain ⟨P', lf'⟩ := q
      simp only at k1 k2 k3 k4 p1 p2 p3 p4 HTk HPu
      have HTk2 := Lib.hid HTk.out
      have hle' := le_sum k2
      have HPr : Hid (∀ z ∈ P', 0 ≤ z ∧ z ≤ 1000000) := fun z hz => ⟨k2 z hz, by have := hle' z hz; omega⟩
      have HPl : Hid (P'.length = pen) := hide (by rw [k1, HL1.out])
      have hps := nn_sum k2
      have hpn : pen ≤ 1000 := by rw [← HL1.out]; exact HRl.out
      obtain ⟨t, ht⟩ : ∃ t, P'.sum = t := ⟨_, rfl⟩
      have HT2 := Lib.hid ht
      rw [ht] at k4 p4 hps
      clear q1 q2 p1 p2 k1 k2 hle hle' hformP hjx hjl hj hxm ht HTk
      obtain ⟨An, nn, cn, rfl, _, _, _, _⟩ := HNow.out.nam
      have HS : Hid (∀ W, Below wo.heap.size wo W → (fun W => Below wo.heap.size wo W ∧ W.cell? (ad.add k) = some (.int .i64 x) ∧ Blk W w.heap.size 27 #[vn, vl, vr, vb] ∧ Blk W (w.heap.size + 1) 30 #[.slice A1 pen c1, .slice A2 n2 c2, .int .i64 bg]) W) := fun W hB => ⟨hB, (hB.cell (by rw [block_of_add]; exact hab)).trans hc, HX0o.out.below hB (Nat.lt_of_lt_of_le hxx0 hszo), HX1o.out.below hB (Nat.lt_of_lt_of_le hxx1 hszo)⟩
      have h0 := HS.out _ ((Below.refl wo.heap.size wo).drew)
      have HMod : Hid (StrV Rn.cells 7 wo.drew wo.drew.heap.size vr rs) := hide HMo.out
      have HBvod : Hid (RowV wo.drew wo.drew.heap.size vb bs) := hide HBvo.out
      have HR1od : Hid (RowV wo.drew wo.drew.heap.size (.slice A1 pen c1) runs) := hide HR1o.out
      have HNowd : Hid (RowV wo.drew wo.drew.heap.size (.slice An nn cn) P) := hide HNow.out
      go_wp2_with fail
      refine wp_region_held_drew (S := fun W => Below wo.heap.size wo W ∧ W.cell? (ad.add k) = some (.int .i64 x) ∧ Blk W w.heap.size 27 #[vn, vl, vr, vb] ∧ Blk W (w.heap.size + 1) 30 #[.slice A1 pen c1, .slice A2 n2 c2, .int .i64 bg]) (by kernel_rfl) (h0) (fun hHeld => ?_)
      refine held_load 0 (some 102) 27 (.tmp 3) (by rfl) (by kernel_rfl) (by kernel_rfl) (by kernel_rfl) (w.heap.size) 27 #[vn, vl, vr, vb] (fun _ _ _ h => h) (by rfl) (fun _ h => h.2.2.1) _ Try.underlying27 rfl (by kernel_rfl) (by assumption) ?_
      try simp only [Act.put, List.setIfInBounds_toArray, List.set_cons_zero, List.set_cons_succ]
      refine held_load 1 (some 103) 30 (.tmp 4) (by rfl) (by kernel_rfl) (by kernel_rfl) (by kernel_rfl) (w.heap.size + 1) 30 #[.slice A1 pen c1, .slice A2 n2 c2, .int .i64 bg] (fun _ _ _ h => h) (by rfl) (fun _ h => h.2.2.2) _ Try.underlying30 rfl (by kernel_rfl) (by assumption) ?_
      try simp only [Act.put, List.setIfInBounds_toArray, List.set_cons_zero, List.set_cons_succ]
      refine held_run 2 (some 104) (.move (.tmp 14)) ?v20_1_4 (by rfl) (by kernel_rfl) (by kernel_rfl) (by kernel_rfl) (fun _ _ _ h => h) (fun o ho w hS => ?y20_1_4) (by assumption) ?r20_1_4
      case y20_1_4 => (try dsimp only at hS); unfold execOp; simp only [ho]; go_simp; try with_reducible rfl
      try simp only [Act.put, List.setIfInBounds_toArray, List.set_cons_zero, List.set_cons_succ]
      refine held_run 3 (some 105) (.move (.tmp 12)) ?v20_1_5 (by rfl) (by kernel_rfl) (by kernel_rfl) (by kernel_rfl) (fun _ _ _ h => h) (fun o ho w hS => ?y20_1_5) (by assumption) ?r20_1_5
      case y20_1_5 => (try dsimp only at hS); unfold execOp; simp only [ho]; go_simp; try with_reducible rfl
      try simp only [Act.put, List.setIfInBounds_toArray, List.set_cons_zero, List.set_cons_succ]
      refine held_run 4 (some 106) (.move (.tmp 16)) ?v20_1_6 (by rfl) (by kernel_rfl) (by kernel_rfl) (by kernel_rfl) (fun _ _ _ h => h) (fun o ho w hS => ?y20_1_6) (by assumption) ?r20_1_6
      case y20_1_6 => (try dsimp only at hS); unfold execOp; simp only [ho]; go_simp; try with_reducible rfl
      try simp only [Act.put, List.setIfInBounds_toArray, List.set_cons_zero, List.set_cons_succ]
      refine held_run 5 (some 107) (.indexAddr 25 (.tmp 105) (.tmp 106)) ?v20_1_7 (by rfl) (by kernel_rfl) (by kernel_rfl) (by kernel_rfl) (fun _ _ _ h => h) (fun o ho w hS => ?y20_1_7) (by assumption) ?r20_1_7
      case y20_1_7 => (try dsimp only at hS); unfold execOp; simp only [ho]; go_simp; try with_reducible rfl
      try simp only [Act.put, List.setIfInBounds_toArray, List.set_cons_zero, List.set_cons_succ]
      refine held_run 6 (some 108) (.load 3 (.tmp 107)) ?v20_1_8 (by rfl) (by kernel_rfl) (by kernel_rfl) (by kernel_rfl) (fun _ _ _ h => h) (fun o ho w hS => ?y20_1_8) (by assumption) ?r20_1_8
      case y20_1_8 => (try dsimp only at hS); unfold execOp; simp only [ho]; go_simp; try with_reducible rfl
      try simp only [Act.put, List.setIfInBounds_toArray, List.set_cons_zero, List.set_cons_succ]
      refine held_call 7 (some 109) 28 [(.tmp 102), (.tmp 103), (.tmp 104), (.tmp 108)] #[27, 30, 25, 3] #[.agg #[vn, vl, vr, vb], .agg #[.slice A1 pen c1, .slice A2 n2 c2, .int .i64 bg], .slice An nn cn, .int .i64 x] (by rfl) (by rfl) (by kernel_rfl) Try.func28 (by rfl) (by rfl) ?_
      refine (HPu.out _ _ HMod.out HBvod.out HR1od.out HNowd.out).mono ?_
      rintro e w7 ⟨vx, rfl, hvx, hb7⟩
      have hbb7 : Below wo.heap.size wo w7 := (Below.refl wo.heap.size wo).drew.trans hb7
      have HVx := Lib.hid hvx
      have HLr7 := Lib.hid (HLr.out.now hbb7)
      have HB7 := Lib.hid (HBo.out.trans (hbb7.mono hszo))
      have HW7 := Lib.hid (HWo.out.trans (hbb7.mono HWo.out.size))
      have hsz7 : wb.heap.size ≤ w7.heap.size := Nat.le_trans hszo hbb7.size
      have HX07 := Lib.hid (HX0o.out.below hbb7 (Nat.lt_of_lt_of_le hxx0 hszo))
      have HX17 := Lib.hid (HX1o.out.below hbb7 (Nat.lt_of_lt_of_le hxx1 hszo))
      have HNd7 := Lib.hid (HNdo.out.now hbb7)
      have HLf7 := Lib.hid (HLfo.out.now hbb7)
      have HM7 := Lib.hid (HMo.out.now hbb7)
      have HBv7 := Lib.hid (HBvo.out.now hbb7)
      have HR17 := Lib.hid (HR1o.out.now hbb7)
      have HR27 := Lib.hid (HR2o.out.now hbb7)
      have HR2s7 := Lib.hid (HR2so.out.now hbb7)
      have HPe7 := Lib.hid (HPeo.out.now hbb7)
      clear h0
      have h0 := HS.out _ hbb7
      refine ⟨_, rfl, h0, ?_⟩
      clear hb7 hbb7 hvx
      try simp only [Act.put, List.setIfInBounds_toArray, List.set_cons_zero, List.set_cons_succ]
      refine held_run 8 (some 101) (.move (.tmp 109)) ?v20_1_10 (by rfl) (by kernel_rfl) (by kernel_rfl) (by kernel_rfl) (fun _ _ _ h => h) (fun o ho w hS => ?y20_1_10) (by assumption) ?r20_1_10
      case y20_1_10 => (try dsimp only at hS); unfold execOp; simp only [ho]; go_simp; try with_reducible rfl
      try simp only [Act.put, List.setIfInBounds_toArray, List.set_cons_zero, List.set_cons_succ]
      refine held_run 9 (some 110) (.extract (.tmp 101) 0) ?v20_1_11 (by rfl) (by kernel_rfl) (by kernel_rfl) (by kernel_rfl) (fun _ _ _ h => h) (fun o ho w hS => ?y20_1_11) (by assumption) ?r20_1_11
      case y20_1_11 => (try dsimp only at hS); unfold execOp; simp only [ho]; go_simp; try with_reducible rfl
      try simp only [Act.put, List.setIfInBounds_toArray, List.set_cons_zero, List.set_cons_succ]
      refine held_run 10 (some 111) (.extract (.tmp 101) 1) ?v20_1_12 (by rfl) (by kernel_rfl) (by kernel_rfl) (by kernel_rfl) (fun _ _ _ h => h) (fun o ho w hS => ?y20_1_12) (by assumption) ?r20_1_12
      case y20_1_12 => (try dsimp only at hS); unfold execOp; simp only [ho]; go_simp; try with_reducible rfl
      try simp only [Act.put, List.setIfInBounds_toArray, List.set_cons_zero, List.set_cons_succ]
      refine held_run 11 (some 112) (.extract (.tmp 101) 2) ?v20_1_13 (by rfl) (by kernel_rfl) (by kernel_rfl) (by kernel_rfl) (fun _ _ _ h => h) (fun o ho w hS => ?y20_1_13) (by assumption) ?r20_1_13
      case y20_1_13 => (try dsimp only at hS); unfold execOp; simp only [ho]; go_simp; try with_reducible rfl
      try simp only [Act.put, List.setIfInBounds_toArray, List.set_cons_zero, List.set_cons_succ]
      refine held_run 12 (some 17) (.assign (.tmp 110)) ?v20_1_14 (by rfl) (by kernel_rfl) (by kernel_rfl) (by kernel_rfl) (fun _ _ _ h => h) (fun o ho w hS => ?y20_1_14) (by assumption) ?r20_1_14
      case y20_1_14 => (try dsimp only at hS); unfold execOp; simp only [ho]; go_simp; try with_reducible rfl
      try simp only [Act.put, List.setIfInBounds_toArray, List.set_cons_zero, List.set_cons_succ]
      refine held_run 13 (some 18) (.assign (.tmp 111)) ?v20_1_15 (by rfl) (by kernel_rfl) (by kernel_rfl) (by kernel_rfl) (fun _ _ _ h => h) (fun o ho w hS => ?y20_1_15) (by assumption) ?r20_1_15
      case y20_1_15 => (try dsimp only at hS); unfold execOp; simp only [ho]; go_simp; try with_reducible rfl
      try simp only [Act.put, List.setIfInBounds_toArray, List.set_cons_zero, List.set_cons_succ]
      refine held_run 14 (some 19) (.assign (.tmp 112)) ?v20_1_16 (by rfl) (by kernel_rfl) (by kernel_rfl) (by kernel_rfl) (fun _ _ _ h => h) (fun o ho w hS => ?y20_1_16) (by assumption) ?r20_1_16
      case y20_1_16 => (try dsimp only at hS); unfold execOp; simp only [ho]; go_simp; try with_reducible rfl
      try simp only [Act.put, List.setIfInBounds_toArray, List.set_cons_zero, List.set_cons_succ]
      refine wpAnyH_done (by kernel_rfl) ?_ _
      clear h0 HS
      go_wp2_with fail
      with_reducible refine (sum_any _ P' _ HVx.out).mono ?_
      rintro e w' ⟨s7, b7, rfl, _, t2, t3, rfl⟩
      have hb7 : b7 = true := t2 HPr.out
      subst hb7
      have hs7 : s7 = t := (t3 rfl (by rw [HPl.out]; exact hpn)).trans HT2.out
      subst hs7
      clear t2 t3
      obtain ⟨Ax, nx, cx, rfl, HLx, _, _, _⟩ := HVx.out.nam
      have hnx : nx = pen := by rw [← HLx.out, HPl.out]
      subst hnx
      have dl : decide (lf' < 0) = false := decide_eq_false (by omega)
      have w1' : IntKind.i64.wrap (gone + lf') = gone + lf' := IntWalk.i64_in _ (by omega)
      have w2' : IntKind.i64.wrap (gone + lf' + s7) = sm := by rw [show gone + lf' + s7 = sm by omega]; exact IntWalk.i64_in _ (by omega)
      have g3 : (sm == sm) = true := beq_self_eq_true sm
      go_wp2_with fail
      clear w1' w2'
      go_roundw
      case rel => exact ⟨k + 1, by omega, by go_num, by rw [HTk2.out], by rw [HTk2.out]; exact HVx.out, HLr7.out, HB7.out⟩
      case measure => simp [intOf]; omega


theorem own_sweepEmpties : ownKnob Try.prog.godebug = none := by kernel_rfl
theorem laidOut_sweepEmpties : laidOutB Try.prog = true := by kernel_rfl
set_option maxRecDepth 100000 in
theorem sweepEmpties_lifted (os : Os) (started : os.Started) (H : Type) (enc : TypeId × Value → H) :
    ReturnsInHanded {} Try.checked os 8 .any (Rows.sweepEmptiesSpec.pre6 enc Try.prog Try.f8 Rows.sweepEmptiesRow.domain false) (Rows.sweepEmptiesSpec.post enc Try.prog Try.f8 false true false false) := by
  refine returnsInHanded_of_change (C := Try.checked) own_sweepEmpties started (by kernel_rfl) Try.func8
    (ChangeSpec.witness6 (enc := enc) (C := Try.checked) false ⟨#[], #[.agg #[.slice none 0 0, .slice none 0 0, .slice none 0 0, .slice none 0 0], .agg #[.slice none 0 0, .slice none 0 0, .int .i64 0], .slice none 0 0], []⟩ 8 (by kernel_rfl) (by kernel_rfl) (by kernel_rfl) (by kernel_rfl)) ?_
  intro W base args ds gs before hval0 hW hcnd _
  have hval : ∀ (j : Nat) t v, Try.f8.params[j]? = some t → args[j]? = some v → Value.okWide Try.prog W .any base t v := hval0
  have hW' := hW
  obtain ⟨p, q, hA0, hV, rfl, hfz, hnd⟩ := hW
  have hA : DataW.TrodAll enc Try.prog W 0 (fun _ => true) true Try.f8.params.toList args.toList ds p := hA0
  rw [Try.params8] at hA hval
  obtain ⟨v0, vs0, d0, ds0, p0, q0, hargs, rfl, rfl, h0, r0⟩ := trodAll_cons hA
  obtain ⟨v1, vs1, d1, ds1, p1, q1, rfl, rfl, rfl, h1, r1⟩ := trodAll_cons r0
  obtain ⟨v2, vs2, d2, ds2, p2, q2, rfl, rfl, rfl, h2, r2⟩ := trodAll_cons r1
  obtain ⟨rfl, rfl, rfl⟩ := trodAll_nil r2
  obtain rfl : args = #[v0, v1, v2] := by cases args; simp_all
  obtain ⟨rfl, rfl⟩ := trodVars_none hV
  obtain ⟨vn, vl, vr, vb, nd, lf, rs, bs, rfl, hnd, hlf, hrs, hbs⟩ := open_map (hval 0 27 v0 rfl rfl) h0
  obtain ⟨s1, s2, bg, runs, sw, rfl, hru, hsw⟩ := open_sweep (hval 1 30 v1 rfl rfl) h1
  obtain ⟨peA, pen, pec, pe, rfl, pe1, pe2, per, pew⟩ := open_ints_any Try.underlying25 Try.underlying3 (by kernel_rfl) (hval 2 25 v2 rfl rfl) h2
  refine (sweepEmpties_any W vn vl vr vb nd lf rs bs hnd hlf hrs hbs s1 s2 bg runs sw hru hsw peA pen pec pe pe1 pe2 per pew).mono fun e W' ⟨he, hb⟩ => ?_
  subst he
  exact ⟨_, rfl, law_post laidOut_sweepEmpties (by kernel_rfl) rfl rfl Try.underlying4 hW' rfl hb⟩

theorem sweepEmpties_holds : Rows.SweepEmptiesSaid :=
  OpenClaim.holds_of_wide 8 Try.f8 rfl rfl rfl rfl rfl rfl rfl ⟨rfl, rfl, rfl, rfl, rfl⟩ rfl rfl rfl rfl rfl (by kernel_rfl) Try.func8 (by kernel_rfl)
    (of_decide_eq_true (by kernel_rfl)) (by unfold Func.isWrapper; rw [if_neg (by decide +kernel)]; exact ⟨rfl, rfl⟩)
    (fun os started H enc _ => sweepEmpties_lifted os started H enc)
#print axioms sweepEmpties_holds
end Go.Proofs.Yticoeibccdplaaa
