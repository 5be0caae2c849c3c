/-
  SweepAlls answers true for every input. Its conditions: none. (One heavy walk.)
-/
import Derived.Test.YticoeibccdplaaaRows
import Derived.Test.YticoeibccdplaaaRowS
import Derived.Test.YticoeibccdplaaaSwpR
import Derived.Test.YticoeibccdplaaaSwpX
import Derived.Test.YticoeibccdplaaaSwpZ
namespace Go.Proofs.Yticoeibccdplaaa
open Go.ChangeShapes Go.WideShapes Go.ChangeAt Go.RowKit

def allV (bef : Int → Int → Bool) (out : Int → Bool) (runs people : List Int) : Int × Int × Int :=
  if formB runs people = false then (0, 0, 3) else ((allGo bef out runs (ordN bef runs) people 0).2, (allGo bef out runs (ordN bef runs) people 0).1.sum, 0)
theorem allV_of {bef : Int → Int → Bool} {out : Int → Bool} {runs people : List Int} {w : World} {e : Ending} {w' : World} (h : AllR bef out runs people w e w') :
    e = .returned (.tuple #[.int .i64 (allV bef out runs people).1, .int .i64 (allV bef out runs people).2.1, .int .i64 (allV bef out runs people).2.2]) ∧ Below w.heap.size w w' := by
  obtain ⟨hb, ⟨h1, rfl⟩ | ⟨h1, rfl⟩⟩ := h
  · have e0 : allV bef out runs people = (0, 0, 3) := by unfold allV; rw [if_pos h1]
    rw [e0]
    exact ⟨rfl, hb⟩
  · have e0 : allV bef out runs people = ((allGo bef out runs (ordN bef runs) people 0).2, (allGo bef out runs (ordN bef runs) people 0).1.sum, 0) := by unfold allV; rw [if_neg (by rw [h1]; simp)]
    rw [e0]
    exact ⟨rfl, hb⟩
theorem allV_eq {rs : List Rn} {bs runs people : List Int} (hall : ∀ x ∈ runs, hasR rs x = true) : allV (befR rs) (outR rs bs) runs people = allV (befP rs) (outP rs bs) runs people := by
  unfold allV
  rw [ord_eq hall, allGo_eq hall _ _ _ (fun x hx => ord_sub x hx)]

set_option maxRecDepth 100000 in
set_option maxHeartbeats 40000000 in
theorem sweepAlls_any (w : World) (vn vl vr vb : Value) (nd : List Nd) (lf : List Lf) (rs : List Rn) (bs : List Int) (hnd : StrV Nd.cells 2 w w.heap.size vn nd) (hlf : StrV Lf.cells 8 w w.heap.size vl lf) (hrs : StrV Rn.cells 7 w w.heap.size vr rs) (hbs : RowV w w.heap.size vb bs) (v1 v2 : Value) (bg : Int) (runs : List Int) (sw : List Sw) (hru : RowV w w.heap.size v1 runs) (hsw : StrV Sw.cells 4 w w.heap.size v2 sw) (peA : Option Addr) (pen pec : Nat) (pe : List Int) (pe1 : pen ≤ pec) (pe2 : pec ≤ maxLen) (per : Reads w w.heap.size 1 peA pen (pe.map (Value.int .i64))) (pew : ∀ z ∈ pe, (Lit.int .i64 z).wf = true) :
    Calls Try.prog 7 #[.agg #[vn, vl, vr, vb], .agg #[v1, v2, .int .i64 bg], .slice peA pen pec] w fun e w' => e = .returned (.bool true) ∧ Below w.heap.size w w' := by
  have HNd := Lib.hid hnd
  have HLf := Lib.hid hlf
  have HM := Lib.hid hrs
  have HBv := Lib.hid hbs
  have HR1 := Lib.hid hru
  have HR2 := Lib.hid hsw
  have HPe := Lib.hid (rowV_of per pe1 pe2)
  have _hw := pew
  clear _hw hnd hlf hrs hbs hru hsw pew per
  go_enter Try.func7, Try.ntmps7
  go_wp2_with fail
  have HBwz0 := (Blk.new w 27 #[vn, vl, vr, vb])
  have HLwz0 := (below_new w (.cells #[vn, vl, vr, vb] 27))
  have hswz0 : (w.alloc (.cells #[vn, vl, vr, vb] 27)).heap.size = w.heap.size + 1 := by simp
  generalize w.alloc (.cells #[vn, vl, vr, vb] 27) = wz0 at HBwz0 HLwz0 hswz0 ⊢
  replace HBwz0 := Lib.hid HBwz0
  replace HLwz0 := Lib.hid HLwz0
  have hlwz0 : w.heap.size < wz0.heap.size := by omega
  replace hswz0 := Lib.hid hswz0
  have HBwb := (Blk.new wz0 30 #[v1, v2, .int .i64 bg])
  have HLwb := (below_new wz0 (.cells #[v1, v2, .int .i64 bg] 30))
  have hswb : (wz0.alloc (.cells #[v1, v2, .int .i64 bg] 30)).heap.size = wz0.heap.size + 1 := by simp
  generalize wz0.alloc (.cells #[v1, v2, .int .i64 bg] 30) = wb at HBwb HLwb hswb ⊢
  replace HBwb := Lib.hid HBwb
  replace HLwb := Lib.hid HLwb
  have hlwb : wz0.heap.size < wb.heap.size := by omega
  replace hswb := Lib.hid hswb
  have HQ1 := Lib.hid (HLwz0.out.trans (HLwb.out.mono HLwz0.out.size))
  have HWb := Lib.hid (HQ1.out)
  have hl0 : w.heap.size ≤ wb.heap.size := HWb.out.size
  have HBb : Hid (Below wb.heap.size wb wb) := hide (Below.refl _ _)
  have hszb : wb.heap.size ≤ wb.heap.size := Nat.le_refl _
  have HZ0_1 := Lib.hid (HBwz0.out.below HLwb.out hlwz0)
  have hz0_1 : w.heap.size < wb.heap.size := HZ0_1.out.lt
  have HX0b : Hid (Blk wb w.heap.size 27 #[vn, vl, vr, vb]) := hide HZ0_1.out
  have hxx0 : w.heap.size < wb.heap.size := HX0b.out.lt
  have HX1b : Hid (Blk wb (w.heap.size + 1) 30 #[v1, v2, .int .i64 bg]) := hide (by have h := HBwb.out; rw [show wz0.heap.size = w.heap.size + 1 from by have := hswz0.out; omega] at h; exact h)
  have hxx1 : (w.heap.size + 1) < wb.heap.size := HX1b.out.lt
  clear HBwz0 HLwz0 hswz0 hlwz0
  clear HBwb HLwb hswb hlwb
  have HNdb := Lib.hid (HNd.out.now HWb.out)
  have HLfb := Lib.hid (HLf.out.now HWb.out)
  have HMb := Lib.hid (HM.out.now HWb.out)
  have HBvb := Lib.hid (HBv.out.now HWb.out)
  have HR1b := Lib.hid (HR1.out.now HWb.out)
  have HR2b := Lib.hid (HR2.out.now HWb.out)
  have HPeb := Lib.hid (HPe.out.now HWb.out)
  with_reducible refine (alive_any _).mono ?_
  rintro e w1 ⟨rfl, hb1⟩
  have HB1 := Lib.hid (HBb.out.trans (hb1.mono hszb))
  have HW1 := Lib.hid (HWb.out.trans (hb1.mono HWb.out.size))
  have hsz1 : wb.heap.size ≤ w1.heap.size := Nat.le_trans hszb hb1.size
  have HX01 := Lib.hid (HX0b.out.below hb1 (Nat.lt_of_lt_of_le hxx0 hszb))
  have HX11 := Lib.hid (HX1b.out.below hb1 (Nat.lt_of_lt_of_le hxx1 hszb))
  have HNd1 := Lib.hid (HNdb.out.now hb1)
  have HLf1 := Lib.hid (HLfb.out.now hb1)
  have HM1 := Lib.hid (HMb.out.now hb1)
  have HBv1 := Lib.hid (HBvb.out.now hb1)
  have HR11 := Lib.hid (HR1b.out.now hb1)
  have HR21 := Lib.hid (HR2b.out.now hb1)
  have HPe1 := Lib.hid (HPeb.out.now hb1)
  clear hb1
  go_wp2_with
    (first
     | (refine wpList_load_g 27 (.tmp 3) rfl rfl w.heap.size rfl _ _ HX01.out _ Try.underlying27 rfl (by kernel_rfl) ?_)
     | (refine wpList_load_g 30 (.tmp 4) rfl rfl (w.heap.size + 1) rfl _ _ HX11.out _ Try.underlying30 rfl (by kernel_rfl) ?_))
  with_reducible refine (defined_any vn vl vr vb v1 v2 bg nd lf rs bs runs sw _ HNd1.out HLf1.out HM1.out HBv1.out HR11.out HR21.out).mono ?_
  rintro e w2 ⟨db, rfl, hdb, hb2⟩
  have HB2 := Lib.hid (HB1.out.trans (hb2.mono hsz1))
  have HW2 := Lib.hid (HW1.out.trans (hb2.mono HW1.out.size))
  have hsz2 : wb.heap.size ≤ w2.heap.size := Nat.le_trans hsz1 hb2.size
  have HX02 := Lib.hid (HX01.out.below hb2 (Nat.lt_of_lt_of_le hxx0 hsz1))
  have HX12 := Lib.hid (HX11.out.below hb2 (Nat.lt_of_lt_of_le hxx1 hsz1))
  have HNd2 := Lib.hid (HNd1.out.now hb2)
  have HLf2 := Lib.hid (HLf1.out.now hb2)
  have HM2 := Lib.hid (HM1.out.now hb2)
  have HBv2 := Lib.hid (HBv1.out.now hb2)
  have HR12 := Lib.hid (HR11.out.now hb2)
  have HR22 := Lib.hid (HR21.out.now hb2)
  have HPe2 := Lib.hid (HPe1.out.now hb2)
  clear hb2
  cases db with
  | false =>
    go_wp2_with fail
    go_ret
    exact ⟨rfl, HW2.out⟩
  | true =>
    obtain ⟨hlen, hall, hlow, _, _, _⟩ := right_says (hdb rfl)
    have hlim : runs.length ≤ 1000 := by omega
    clear hdb
    obtain ⟨⟨a', n', e'⟩, hP⟩ : ∃ x, allV (befP rs) (outP rs bs) runs pe = x := ⟨_, rfl⟩
    have HA : Hid (∀ W : World, StrV Rn.cells 7 W W.heap.size vr rs → RowV W W.heap.size vb bs → RowV W W.heap.size v1 runs → RowV W W.heap.size (.slice peA pen pec) pe → Calls Try.prog 30 #[.agg #[vn, vl, vr, vb], .agg #[v1, v2, .int .i64 bg], .slice peA pen pec] W fun e w' => e = .returned (.tuple #[.int .i64 a', .int .i64 n', .int .i64 e']) ∧ Below W.heap.size W w') := fun W a1 a2 a3 a4 => by
      refine (all_any vn vl vr vb v1 v2 _ bg rs bs runs pe sw W a1 a2 a3 a4 hlim).mono fun e w' h => ?_
      obtain ⟨h2, h4⟩ := allV_of h
      rw [hP] at h2
      exact ⟨h2, h4⟩
    have HB : Hid (∀ W : World, StrV Rn.cells 7 W W.heap.size vr rs → RowV W W.heap.size vb bs → RowV W W.heap.size v1 runs → RowV W W.heap.size (.slice peA pen pec) pe → Calls Try.prog 31 #[.agg #[vn, vl, vr, vb], .agg #[v1, v2, .int .i64 bg], .slice peA pen pec] W fun e w' => e = .returned (.tuple #[.int .i64 a', .int .i64 n', .int .i64 e']) ∧ Below W.heap.size W w') := fun W a1 a2 a3 a4 => by
      refine (rall_any vn vl vr vb v1 v2 _ bg rs bs runs pe sw W a1 a2 a3 a4 hlim hlow).mono fun e w' h => ?_
      obtain ⟨h2, h4⟩ := allV_of h
      rw [allV_eq hall, hP] at h2
      exact ⟨h2, h4⟩
    clear hP hall hlow
    by_cases hpl : 80 < pen
    · have e2 : (80 : Int) < (pen : Int) := by omega
      go_wp2_with fail
      go_ret
      exact ⟨rfl, HW2.out⟩
    have e1 : decide ((80 : Int) < (pen : Int)) = false := decide_eq_false (by omega)
    have e1' : decide (80 < pen) = false := decide_eq_false hpl
    go_wp2_with
      (first
       | (refine wpList_load_g 27 (.tmp 3) rfl rfl w.heap.size rfl _ _ HX02.out _ Try.underlying27 rfl (by kernel_rfl) ?_)
       | (refine wpList_load_g 30 (.tmp 4) rfl rfl (w.heap.size + 1) rfl _ _ HX12.out _ Try.underlying30 rfl (by kernel_rfl) ?_))
    with_reducible refine (HA.out _ HM2.out HBv2.out HR12.out HPe2.out).mono ?_
    rintro e w3 ⟨rfl, hb3⟩
    have HB3 := Lib.hid (HB2.out.trans (hb3.mono hsz2))
    have HW3 := Lib.hid (HW2.out.trans (hb3.mono HW2.out.size))
    have hsz3 : wb.heap.size ≤ w3.heap.size := Nat.le_trans hsz2 hb3.size
    have HX03 := Lib.hid (HX02.out.below hb3 (Nat.lt_of_lt_of_le hxx0 hsz2))
    have HX13 := Lib.hid (HX12.out.below hb3 (Nat.lt_of_lt_of_le hxx1 hsz2))
    have HNd3 := Lib.hid (HNd2.out.now hb3)
    have HLf3 := Lib.hid (HLf2.out.now hb3)
    have HM3 := Lib.hid (HM2.out.now hb3)
    have HBv3 := Lib.hid (HBv2.out.now hb3)
    have HR13 := Lib.hid (HR12.out.now hb3)
    have HR23 := Lib.hid (HR22.out.now hb3)
    have HPe3 := Lib.hid (HPe2.out.now hb3)
    clear hb3
    go_wp2_with
      (first
       | (refine wpList_load_g 27 (.tmp 3) rfl rfl w.heap.size rfl _ _ HX03.out _ Try.underlying27 rfl (by kernel_rfl) ?_)
       | (refine wpList_load_g 30 (.tmp 4) rfl rfl (w.heap.size + 1) rfl _ _ HX13.out _ Try.underlying30 rfl (by kernel_rfl) ?_))
    with_reducible refine (HB.out _ HM3.out HBv3.out HR13.out HPe3.out).mono ?_
    rintro e w4 ⟨rfl, hb4⟩
    have HB4 := Lib.hid (HB3.out.trans (hb4.mono hsz3))
    have HW4 := Lib.hid (HW3.out.trans (hb4.mono HW3.out.size))
    have hsz4 : wb.heap.size ≤ w4.heap.size := Nat.le_trans hsz3 hb4.size
    have HX04 := Lib.hid (HX03.out.below hb4 (Nat.lt_of_lt_of_le hxx0 hsz3))
    have HX14 := Lib.hid (HX13.out.below hb4 (Nat.lt_of_lt_of_le hxx1 hsz3))
    have HNd4 := Lib.hid (HNd3.out.now hb4)
    have HLf4 := Lib.hid (HLf3.out.now hb4)
    have HM4 := Lib.hid (HM3.out.now hb4)
    have HBv4 := Lib.hid (HBv3.out.now hb4)
    have HR14 := Lib.hid (HR13.out.now hb4)
    have HR24 := Lib.hid (HR23.out.now hb4)
    have HPe4 := Lib.hid (HPe3.out.now hb4)
    clear hb4
    have g1 : (a' == a') = true := beq_self_eq_true a'
    have g2 : (e' == e') = true := beq_self_eq_true e'
    have g3 : (n' == n') = true := beq_self_eq_true n'
    go_wp2_with fail
    go_ret
    exact ⟨rfl, HW4.out⟩


theorem own_sweepAlls : ownKnob Try.prog.godebug = none := by kernel_rfl
theorem laidOut_sweepAlls : laidOutB Try.prog = true := by kernel_rfl
set_option maxRecDepth 100000 in
theorem sweepAlls_lifted (os : Os) (started : os.Started) (H : Type) (enc : TypeId × Value → H) :
    ReturnsInHanded {} Try.checked os 7 .any (Rows.sweepAllsSpec.pre6 enc Try.prog Try.f7 Rows.sweepAllsRow.domain false) (Rows.sweepAllsSpec.post enc Try.prog Try.f7 false true false false) := by
  refine returnsInHanded_of_change (C := Try.checked) own_sweepAlls started (by kernel_rfl) Try.func7
    (ChangeSpec.witness6 (enc := enc) (C := Try.checked) false ⟨#[], #[.agg #[.slice none 0 0, .slice none 0 0, .slice none 0 0, .slice none 0 0], .agg #[.slice none 0 0, .slice none 0 0, .int .i64 0], .slice none 0 0], []⟩ 8 (by kernel_rfl) (by kernel_rfl) (by kernel_rfl) (by kernel_rfl)) ?_
  intro W base args ds gs before hval0 hW hcnd _
  have hval : ∀ (j : Nat) t v, Try.f7.params[j]? = some t → args[j]? = some v → Value.okWide Try.prog W .any base t v := hval0
  have hW' := hW
  obtain ⟨p, q, hA0, hV, rfl, hfz, hnd⟩ := hW
  have hA : DataW.TrodAll enc Try.prog W 0 (fun _ => true) true Try.f7.params.toList args.toList ds p := hA0
  rw [Try.params7] at hA hval
  obtain ⟨v0, vs0, d0, ds0, p0, q0, hargs, rfl, rfl, h0, r0⟩ := trodAll_cons hA
  obtain ⟨v1, vs1, d1, ds1, p1, q1, rfl, rfl, rfl, h1, r1⟩ := trodAll_cons r0
  obtain ⟨v2, vs2, d2, ds2, p2, q2, rfl, rfl, rfl, h2, r2⟩ := trodAll_cons r1
  obtain ⟨rfl, rfl, rfl⟩ := trodAll_nil r2
  obtain rfl : args = #[v0, v1, v2] := by cases args; simp_all
  obtain ⟨rfl, rfl⟩ := trodVars_none hV
  obtain ⟨vn, vl, vr, vb, nd, lf, rs, bs, rfl, hnd, hlf, hrs, hbs⟩ := open_map (hval 0 27 v0 rfl rfl) h0
  obtain ⟨s1, s2, bg, runs, sw, rfl, hru, hsw⟩ := open_sweep (hval 1 30 v1 rfl rfl) h1
  obtain ⟨peA, pen, pec, pe, rfl, pe1, pe2, per, pew⟩ := open_ints_any Try.underlying25 Try.underlying3 (by kernel_rfl) (hval 2 25 v2 rfl rfl) h2
  refine (sweepAlls_any W vn vl vr vb nd lf rs bs hnd hlf hrs hbs s1 s2 bg runs sw hru hsw peA pen pec pe pe1 pe2 per pew).mono fun e W' ⟨he, hb⟩ => ?_
  subst he
  exact ⟨_, rfl, law_post laidOut_sweepAlls (by kernel_rfl) rfl rfl Try.underlying4 hW' rfl hb⟩

theorem sweepAlls_holds : Rows.SweepAllsSaid :=
  OpenClaim.holds_of_wide 7 Try.f7 rfl rfl rfl rfl rfl rfl rfl ⟨rfl, rfl, rfl, rfl, rfl⟩ rfl rfl rfl rfl rfl (by kernel_rfl) Try.func7 (by kernel_rfl)
    (of_decide_eq_true (by kernel_rfl)) (by unfold Func.isWrapper; rw [if_neg (by decide +kernel)]; exact ⟨rfl, rfl⟩)
    (fun os started H enc _ => sweepAlls_lifted os started H enc)
#print axioms sweepAlls_holds
end Go.Proofs.Yticoeibccdplaaa
