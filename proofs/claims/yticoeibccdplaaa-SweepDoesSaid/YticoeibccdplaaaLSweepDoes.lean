/-
  SweepDoes answers true for every input. Its conditions: none. (One heavy walk.)
-/
import Derived.Test.YticoeibccdplaaaRows
import Derived.Test.YticoeibccdplaaaRowS
import Derived.Test.YticoeibccdplaaaSwpR
import Derived.Test.YticoeibccdplaaaSwpX
import Derived.Test.YticoeibccdplaaaSwpZ
import Derived.Test.YticoeibccdplaaaSwpSa
import Derived.Test.YticoeibccdplaaaSwpDo
namespace Go.Proofs.Yticoeibccdplaaa
open Go.ChangeShapes Go.WideShapes Go.ChangeAt Go.RowKit

def doV (ok : Bool) (r : Int) (runs : List Int) (bg : Int) (sw : List Sw) : List Int × List Sw × Int × Int :=
  if ok = true then ([], [], 0, 13) else if r ≠ 0 then ([], [], 0, r) else (runs, sw, bg, 0)
theorem doV_of {has : Int → Bool} {bef : Int → Int → Bool} {out : Int → Bool} {runs opn : List Int} {bg : Int} {sw : List Sw} {q : Sw} {w : World} {e : Ending} {w' : World} (h : DoR has bef out runs bg sw opn q w e w') {ok : Bool} {r : Int} (hok : opn.contains q.run = ok) (hr : rightG has bef out runs bg (sw ++ [q]) = r) :
    ∃ x y, e = .returned (.tuple #[.agg #[x, y, .int .i64 (doV ok r runs bg (sw ++ [q])).2.2.1], .int .i64 (doV ok r runs bg (sw ++ [q])).2.2.2]) ∧ RowV w' w'.heap.size x (doV ok r runs bg (sw ++ [q])).1 ∧ StrV Sw.cells 4 w' w'.heap.size y (doV ok r runs bg (sw ++ [q])).2.1 ∧ Below w.heap.size w w' := by
  obtain ⟨hb, ⟨h1, rfl⟩ | ⟨h1, h2, rfl⟩ | ⟨h1, h2, x, y, rfl, h3, h4⟩⟩ := h
  · rw [hok] at h1
    have e0 : doV ok r runs bg (sw ++ [q]) = ([], [], 0, 13) := by unfold doV; rw [if_pos h1]
    rw [e0]
    exact ⟨_, _, rfl, rowV_nil _ _, strV_nil _ _ _ _, hb⟩
  · rw [hok] at h1
    rw [hr] at h2
    have e0 : doV ok r runs bg (sw ++ [q]) = ([], [], 0, r) := by unfold doV; rw [if_neg (by rw [h1]; simp), if_pos h2]
    rw [e0, hr]
    exact ⟨_, _, rfl, rowV_nil _ _, strV_nil _ _ _ _, hb⟩
  · rw [hok] at h1
    rw [hr] at h2
    have e0 : doV ok r runs bg (sw ++ [q]) = (runs, sw ++ [q], bg, 0) := by unfold doV; rw [if_neg (by rw [h1]; simp), if_neg (by simp [h2])]
    rw [e0]
    exact ⟨x, y, rfl, h3, h4, hb⟩

set_option maxRecDepth 100000 in
set_option maxHeartbeats 40000000 in
theorem sweepDoes_any (w : World) (vn vl vr vb : Value) (nd : List Nd) (lf : List Lf) (rs : List Rn) (bs : List Int) (hnd : StrV Nd.cells 2 w w.heap.size vn nd) (hlf : StrV Lf.cells 8 w w.heap.size vl lf) (hrs : StrV Rn.cells 7 w w.heap.size vr rs) (hbs : RowV w w.heap.size vb bs) (v1 v2 : Value) (bg : Int) (runs : List Int) (sw : List Sw) (hru : RowV w w.heap.size v1 runs) (hsw : StrV Sw.cells 4 w w.heap.size v2 sw) (qqA : Option Addr) (qqn qqc : Nat) (qq : List Int) (qq1 : qqn ≤ qqc) (qq2 : qqc ≤ maxLen) (qqr : Reads w w.heap.size 1 qqA qqn (qq.map (Value.int .i64))) (qqw : ∀ z ∈ qq, (Lit.int .i64 z).wf = true) (q : Sw) :
    Calls Try.prog 5 #[.agg #[vn, vl, vr, vb], .agg #[v1, v2, .int .i64 bg], .slice qqA qqn qqc, .agg #[.int .i64 q.run, .int .i64 q.byy, .int .i64 q.att, .int .i64 q.fnd]] w fun e w' => e = .returned (.bool true) ∧ Below w.heap.size w w' := by
  have HNd := Lib.hid hnd
  have HLf := Lib.hid hlf
  have HM := Lib.hid hrs
  have HBv := Lib.hid hbs
  have HR1 := Lib.hid hru
  have HR2 := Lib.hid hsw
  have HOp := Lib.hid (rowV_of qqr qq1 qq2)
  have _hw := qqw
  clear _hw hnd hlf hrs hbs hru hsw qqw qqr
  obtain ⟨run, byy, att, fnd⟩ := q
  dsimp only
  go_enter Try.func5, Try.ntmps5
  go_wp2_with fail
  have HBwz0 := (Blk.new w 27 #[vn, vl, vr, vb])
  have HLwz0 := (below_new w (.cells #[vn, vl, vr, vb] 27))
  have hswz0 : (w.alloc (.cells #[vn, vl, vr, vb] 27)).heap.size = w.heap.size + 1 := by simp
  generalize w.alloc (.cells #[vn, vl, vr, vb] 27) = wz0 at HBwz0 HLwz0 hswz0 ⊢
  replace HBwz0 := Lib.hid HBwz0
  replace HLwz0 := Lib.hid HLwz0
  have hlwz0 : w.heap.size < wz0.heap.size := by omega
  replace hswz0 := Lib.hid hswz0
  have HBwz1 := (Blk.new wz0 30 #[v1, v2, .int .i64 bg])
  have HLwz1 := (below_new wz0 (.cells #[v1, v2, .int .i64 bg] 30))
  have hswz1 : (wz0.alloc (.cells #[v1, v2, .int .i64 bg] 30)).heap.size = wz0.heap.size + 1 := by simp
  generalize wz0.alloc (.cells #[v1, v2, .int .i64 bg] 30) = wz1 at HBwz1 HLwz1 hswz1 ⊢
  replace HBwz1 := Lib.hid HBwz1
  replace HLwz1 := Lib.hid HLwz1
  have hlwz1 : wz0.heap.size < wz1.heap.size := by omega
  replace hswz1 := Lib.hid hswz1
  have HBwb := (Blk.new wz1 39 #[.int .i64 run, .int .i64 byy, .int .i64 att, .int .i64 fnd])
  have HLwb := (below_new wz1 (.cells #[.int .i64 run, .int .i64 byy, .int .i64 att, .int .i64 fnd] 39))
  have hswb : (wz1.alloc (.cells #[.int .i64 run, .int .i64 byy, .int .i64 att, .int .i64 fnd] 39)).heap.size = wz1.heap.size + 1 := by simp
  generalize wz1.alloc (.cells #[.int .i64 run, .int .i64 byy, .int .i64 att, .int .i64 fnd] 39) = wb at HBwb HLwb hswb ⊢
  replace HBwb := Lib.hid HBwb
  replace HLwb := Lib.hid HLwb
  have hlwb : wz1.heap.size < wb.heap.size := by omega
  replace hswb := Lib.hid hswb
  have HQ1 := Lib.hid (HLwz0.out.trans (HLwz1.out.mono HLwz0.out.size))
  have HQ2 := Lib.hid (HQ1.out.trans (HLwb.out.mono HQ1.out.size))
  have HWb := Lib.hid (HQ2.out)
  have hl0 : w.heap.size ≤ wb.heap.size := HWb.out.size
  have HBb : Hid (Below wb.heap.size wb wb) := hide (Below.refl _ _)
  have hszb : wb.heap.size ≤ wb.heap.size := Nat.le_refl _
  have HZ0_1 := Lib.hid (HBwz0.out.below HLwz1.out hlwz0)
  have hz0_1 : w.heap.size < wz1.heap.size := HZ0_1.out.lt
  have HZ0_2 := Lib.hid (HZ0_1.out.below HLwb.out hz0_1)
  have hz0_2 : w.heap.size < wb.heap.size := HZ0_2.out.lt
  have HX0b : Hid (Blk wb w.heap.size 27 #[vn, vl, vr, vb]) := hide HZ0_2.out
  have hxx0 : w.heap.size < wb.heap.size := HX0b.out.lt
  have HZ1_2 := Lib.hid (HBwz1.out.below HLwb.out hlwz1)
  have hz1_2 : wz0.heap.size < wb.heap.size := HZ1_2.out.lt
  have HX1b : Hid (Blk wb (w.heap.size + 1) 30 #[v1, v2, .int .i64 bg]) := hide (by have h := HZ1_2.out; rw [show wz0.heap.size = w.heap.size + 1 from by have := hswz0.out; omega] at h; exact h)
  have hxx1 : (w.heap.size + 1) < wb.heap.size := HX1b.out.lt
  have HX2b : Hid (Blk wb (w.heap.size + 1 + 1) 39 #[.int .i64 run, .int .i64 byy, .int .i64 att, .int .i64 fnd]) := hide (by have h := HBwb.out; rw [show wz1.heap.size = w.heap.size + 1 + 1 from by have := hswz0.out; have := hswz1.out; omega] at h; exact h)
  have hxx2 : (w.heap.size + 1 + 1) < wb.heap.size := HX2b.out.lt
  clear HBwz0 HLwz0 hswz0 hlwz0
  clear HBwz1 HLwz1 hswz1 hlwz1
  clear HBwb HLwb hswb hlwb
  have HNdb := Lib.hid (HNd.out.now HWb.out)
  have HLfb := Lib.hid (HLf.out.now HWb.out)
  have HMb := Lib.hid (HM.out.now HWb.out)
  have HBvb := Lib.hid (HBv.out.now HWb.out)
  have HR1b := Lib.hid (HR1.out.now HWb.out)
  have HR2b := Lib.hid (HR2.out.now HWb.out)
  have HOpb := Lib.hid (HOp.out.now HWb.out)
  with_reducible refine (alive_any _).mono ?_
  rintro e w1 ⟨rfl, hb1⟩
  have HB1 := Lib.hid (HBb.out.trans (hb1.mono hszb))
  have HW1 := Lib.hid (HWb.out.trans (hb1.mono HWb.out.size))
  have hsz1 : wb.heap.size ≤ w1.heap.size := Nat.le_trans hszb hb1.size
  have HX01 := Lib.hid (HX0b.out.below hb1 (Nat.lt_of_lt_of_le hxx0 hszb))
  have HX11 := Lib.hid (HX1b.out.below hb1 (Nat.lt_of_lt_of_le hxx1 hszb))
  have HX21 := Lib.hid (HX2b.out.below hb1 (Nat.lt_of_lt_of_le hxx2 hszb))
  have HNd1 := Lib.hid (HNdb.out.now hb1)
  have HLf1 := Lib.hid (HLfb.out.now hb1)
  have HM1 := Lib.hid (HMb.out.now hb1)
  have HBv1 := Lib.hid (HBvb.out.now hb1)
  have HR11 := Lib.hid (HR1b.out.now hb1)
  have HR21 := Lib.hid (HR2b.out.now hb1)
  have HOp1 := Lib.hid (HOpb.out.now hb1)
  clear hb1
  go_wp2_with
    (first
     | (refine wpList_load_g 27 (.tmp 4) rfl rfl w.heap.size rfl _ _ HX01.out _ Try.underlying27 rfl (by kernel_rfl) ?_)
     | (refine wpList_load_g 30 (.tmp 5) rfl rfl (w.heap.size + 1) rfl _ _ HX11.out _ Try.underlying30 rfl (by kernel_rfl) ?_))
  with_reducible refine (defined_any vn vl vr vb v1 v2 bg nd lf rs bs runs sw _ HNd1.out HLf1.out HM1.out HBv1.out HR11.out HR21.out).mono ?_
  rintro e w2 ⟨db, rfl, hdb, hb2⟩
  have HB2 := Lib.hid (HB1.out.trans (hb2.mono hsz1))
  have HW2 := Lib.hid (HW1.out.trans (hb2.mono HW1.out.size))
  have hsz2 : wb.heap.size ≤ w2.heap.size := Nat.le_trans hsz1 hb2.size
  have HX02 := Lib.hid (HX01.out.below hb2 (Nat.lt_of_lt_of_le hxx0 hsz1))
  have HX12 := Lib.hid (HX11.out.below hb2 (Nat.lt_of_lt_of_le hxx1 hsz1))
  have HX22 := Lib.hid (HX21.out.below hb2 (Nat.lt_of_lt_of_le hxx2 hsz1))
  have HNd2 := Lib.hid (HNd1.out.now hb2)
  have HLf2 := Lib.hid (HLf1.out.now hb2)
  have HM2 := Lib.hid (HM1.out.now hb2)
  have HBv2 := Lib.hid (HBv1.out.now hb2)
  have HR12 := Lib.hid (HR11.out.now hb2)
  have HR22 := Lib.hid (HR21.out.now hb2)
  have HOp2 := Lib.hid (HOp1.out.now hb2)
  clear hb2
  cases db with
  | false =>
    go_wp2_with fail
    go_ret
    exact ⟨rfl, HW2.out⟩
  | true =>
    obtain ⟨hlen, hall, _, hchk, hlen2, _⟩ := right_says (hdb rfl)
    have hlim : runs.length ≤ 1000 := by omega
    have hlim2 : sw.length ≤ 1000 := by omega
    clear hdb
    have hbd : ∀ s ∈ sw, 0 ≤ s.fnd ∧ s.fnd ≤ 1000 := fun s hs => by
      obtain ⟨k, hk, rfl⟩ := List.getElem_of_mem hs
      have h := (chk3_zero.1 (hchk k hk)).2.2.1
      rw [show sw.getD k sw0 = sw[k] by simp [List.getElem?_eq_getElem hk]] at h
      unfold InS at h
      omega
    obtain ⟨ok, hok⟩ : ∃ x, qq.contains run = x := ⟨_, rfl⟩
    obtain ⟨r, hr⟩ : ∃ x, rightG (hasR rs) (befP rs) (outP rs bs) runs bg (sw ++ [⟨run, byy, att, fnd⟩]) = x := ⟨_, rfl⟩
    have hr' : rightG (hasR rs) (befR rs) (outR rs bs) runs bg (sw ++ [⟨run, byy, att, fnd⟩]) = r := by
      have h := right_eq rs bs runs bg (sw ++ [⟨run, byy, att, fnd⟩])
      unfold rightP rightR at h
      rw [← h]
      exact hr
    obtain ⟨⟨P, S, b', e'⟩, hP⟩ : ∃ x, doV ok r runs bg (sw ++ [⟨run, byy, att, fnd⟩]) = x := ⟨_, rfl⟩
    have HA : Hid (∀ W : World, StrV Rn.cells 7 W W.heap.size vr rs → RowV W W.heap.size vb bs → RowV W W.heap.size v1 runs → StrV Sw.cells 4 W W.heap.size v2 sw → RowV W W.heap.size (.slice qqA qqn qqc) qq → Calls Try.prog 21 #[.agg #[vn, vl, vr, vb], .agg #[v1, v2, .int .i64 bg], .slice qqA qqn qqc, .agg #[.int .i64 run, .int .i64 byy, .int .i64 att, .int .i64 fnd]] W fun e w' => ∃ x y, e = .returned (.tuple #[.agg #[x, y, .int .i64 b'], .int .i64 e']) ∧ RowV w' w'.heap.size x P ∧ StrV Sw.cells 4 w' w'.heap.size y S ∧ Below W.heap.size W w') := fun W a1 a2 a3 a4 a5 => by
      refine (do_any vn vl vr vb v1 v2 _ bg rs bs runs qq sw ⟨run, byy, att, fnd⟩ W a1 a2 a3 a4 a5 hlim hlim2).mono fun e w' h => ?_
      obtain ⟨x, y, h1, h2, h3, h4⟩ := doV_of h hok hr
      rw [hP] at h1 h2 h3
      exact ⟨x, y, h1, h2, h3, h4⟩
    have HB : Hid (∀ W : World, StrV Rn.cells 7 W W.heap.size vr rs → RowV W W.heap.size vb bs → RowV W W.heap.size v1 runs → StrV Sw.cells 4 W W.heap.size v2 sw → RowV W W.heap.size (.slice qqA qqn qqc) qq → Calls Try.prog 22 #[.agg #[vn, vl, vr, vb], .agg #[v1, v2, .int .i64 bg], .slice qqA qqn qqc, .agg #[.int .i64 run, .int .i64 byy, .int .i64 att, .int .i64 fnd]] W fun e w' => ∃ x y, e = .returned (.tuple #[.agg #[x, y, .int .i64 b'], .int .i64 e']) ∧ RowV w' w'.heap.size x P ∧ StrV Sw.cells 4 w' w'.heap.size y S ∧ Below W.heap.size W w') := fun W a1 a2 a3 a4 a5 => by
      refine (rdo_any vn vl vr vb v1 v2 _ bg rs bs runs qq sw ⟨run, byy, att, fnd⟩ W a1 a2 a3 a4 a5 hlim hlim2).mono fun e w' h => ?_
      obtain ⟨x, y, h1, h2, h3, h4⟩ := doV_of h hok hr'
      rw [hP] at h1 h2 h3
      exact ⟨x, y, h1, h2, h3, h4⟩
    clear hP hok hr hr' hall hchk hlen
    by_cases hpl : 80 < qqn
    · have e2 : (80 : Int) < (qqn : Int) := by omega
      go_wp2_with fail
      go_ret
      exact ⟨rfl, HW2.out⟩
    have e1 : decide ((80 : Int) < (qqn : Int)) = false := decide_eq_false (by omega)
    have e1' : decide (80 < qqn) = false := decide_eq_false hpl
    go_wp2_with
      (first
       | (refine wpList_load_g 27 (.tmp 4) rfl rfl w.heap.size rfl _ _ HX02.out _ Try.underlying27 rfl (by kernel_rfl) ?_)
       | (refine wpList_load_g 30 (.tmp 5) rfl rfl (w.heap.size + 1) rfl _ _ HX12.out _ Try.underlying30 rfl (by kernel_rfl) ?_)
       | (refine wpList_load_g 39 (.tmp 7) rfl rfl (w.heap.size + 1 + 1) rfl _ _ HX22.out _ Try.underlying39 rfl (by kernel_rfl) ?_))
    with_reducible refine (HA.out _ HM2.out HBv2.out HR12.out HR22.out HOp2.out).mono ?_
    rintro e w3 ⟨xa, ya, rfl, hx, hy, hb3⟩
    have oxa := hx.one
    have oya := hy.one
    have HXa3 := Lib.hid hx
    have HYa3 := Lib.hid hy
    have HB3 := Lib.hid (HB2.out.trans (hb3.mono hsz2))
    have HW3 := Lib.hid (HW2.out.trans (hb3.mono HW2.out.size))
    have hsz3 : wb.heap.size ≤ w3.heap.size := Nat.le_trans hsz2 hb3.size
    have HX03 := Lib.hid (HX02.out.below hb3 (Nat.lt_of_lt_of_le hxx0 hsz2))
    have HX13 := Lib.hid (HX12.out.below hb3 (Nat.lt_of_lt_of_le hxx1 hsz2))
    have HX23 := Lib.hid (HX22.out.below hb3 (Nat.lt_of_lt_of_le hxx2 hsz2))
    have HNd3 := Lib.hid (HNd2.out.now hb3)
    have HLf3 := Lib.hid (HLf2.out.now hb3)
    have HM3 := Lib.hid (HM2.out.now hb3)
    have HBv3 := Lib.hid (HBv2.out.now hb3)
    have HR13 := Lib.hid (HR12.out.now hb3)
    have HR23 := Lib.hid (HR22.out.now hb3)
    have HOp3 := Lib.hid (HOp2.out.now hb3)
    clear hb3 hx hy
    go_wp2_with
      (first
       | (refine wpList_store_blk rfl 30 (.tmp 9) (.tmp 30) rfl w3.heap.size #[xa, ya, .int .i64 b'] rfl rfl _ _ (Blk.new w3 30 #[.slice none 0 0, .slice none 0 0, .int .i64 0]) (by kernel_rfl) rfl (by simp [oxa, oya, show ∀ (x : Int), (Value.int .i64 x).oneCell' = true from fun _ => rfl]) ?_
          intro w4 hx4 hon4
          have hb4 := hon4.below (below_new w3 (.cells #[.slice none 0 0, .slice none 0 0, .int .i64 0] 30)) (Nat.le_refl _)
          have HLa4 := Lib.hid hx4
          have HB4 := Lib.hid (HB3.out.trans (hb4.mono hsz3))
          have HW4 := Lib.hid (HW3.out.trans (hb4.mono HW3.out.size))
          have hsz4 : wb.heap.size ≤ w4.heap.size := Nat.le_trans hsz3 hb4.size
          have HX04 := Lib.hid (HX03.out.below hb4 (Nat.lt_of_lt_of_le hxx0 hsz3))
          have HX14 := Lib.hid (HX13.out.below hb4 (Nat.lt_of_lt_of_le hxx1 hsz3))
          have HX24 := Lib.hid (HX23.out.below hb4 (Nat.lt_of_lt_of_le hxx2 hsz3))
          have HNd4 := Lib.hid (HNd3.out.now hb4)
          have HLf4 := Lib.hid (HLf3.out.now hb4)
          have HM4 := Lib.hid (HM3.out.now hb4)
          have HBv4 := Lib.hid (HBv3.out.now hb4)
          have HR14 := Lib.hid (HR13.out.now hb4)
          have HR24 := Lib.hid (HR23.out.now hb4)
          have HOp4 := Lib.hid (HOp3.out.now hb4)
          have HXa4 := Lib.hid (HXa3.out.now hb4)
          have HYa4 := Lib.hid (HYa3.out.now hb4)
          clear hx4 hon4 hb4)
       | (refine wpList_load_g 27 (.tmp 4) rfl rfl w.heap.size rfl _ _ HX04.out _ Try.underlying27 rfl (by kernel_rfl) ?_)
       | (refine wpList_load_g 30 (.tmp 5) rfl rfl (w.heap.size + 1) rfl _ _ HX14.out _ Try.underlying30 rfl (by kernel_rfl) ?_)
       | (refine wpList_load_g 39 (.tmp 7) rfl rfl (w.heap.size + 1 + 1) rfl _ _ HX24.out _ Try.underlying39 rfl (by kernel_rfl) ?_))
    with_reducible refine (HB.out _ HM4.out HBv4.out HR14.out HR24.out HOp4.out).mono ?_
    rintro e w5 ⟨xb, yb, rfl, hx, hy, hb5⟩
    have oxb := hx.one
    have oyb := hy.one
    have HXb5 := Lib.hid hx
    have HYb5 := Lib.hid hy
    have HB5 := Lib.hid (HB4.out.trans (hb5.mono hsz4))
    have HW5 := Lib.hid (HW4.out.trans (hb5.mono HW4.out.size))
    have hsz5 : wb.heap.size ≤ w5.heap.size := Nat.le_trans hsz4 hb5.size
    have HX05 := Lib.hid (HX04.out.below hb5 (Nat.lt_of_lt_of_le hxx0 hsz4))
    have HX15 := Lib.hid (HX14.out.below hb5 (Nat.lt_of_lt_of_le hxx1 hsz4))
    have HX25 := Lib.hid (HX24.out.below hb5 (Nat.lt_of_lt_of_le hxx2 hsz4))
    have HLa5 := Lib.hid (HLa4.out.below hb5 HLa4.out.lt)
    have HNd5 := Lib.hid (HNd4.out.now hb5)
    have HLf5 := Lib.hid (HLf4.out.now hb5)
    have HM5 := Lib.hid (HM4.out.now hb5)
    have HBv5 := Lib.hid (HBv4.out.now hb5)
    have HR15 := Lib.hid (HR14.out.now hb5)
    have HR25 := Lib.hid (HR24.out.now hb5)
    have HOp5 := Lib.hid (HOp4.out.now hb5)
    have HXa5 := Lib.hid (HXa4.out.now hb5)
    have HYa5 := Lib.hid (HYa4.out.now hb5)
    clear hb5 hx hy
    go_wp2_with
      (first
       | (refine wpList_store_blk rfl 30 (.tmp 11) (.tmp 38) rfl w5.heap.size #[xb, yb, .int .i64 b'] rfl rfl _ _ (Blk.new w5 30 #[.slice none 0 0, .slice none 0 0, .int .i64 0]) (by kernel_rfl) rfl (by simp [oxb, oyb, show ∀ (x : Int), (Value.int .i64 x).oneCell' = true from fun _ => rfl]) ?_
          intro w6 hx6 hon6
          have hb6 := hon6.below (below_new w5 (.cells #[.slice none 0 0, .slice none 0 0, .int .i64 0] 30)) (Nat.le_refl _)
          have HLb6 := Lib.hid hx6
          have HB6 := Lib.hid (HB5.out.trans (hb6.mono hsz5))
          have HW6 := Lib.hid (HW5.out.trans (hb6.mono HW5.out.size))
          have hsz6 : wb.heap.size ≤ w6.heap.size := Nat.le_trans hsz5 hb6.size
          have HX06 := Lib.hid (HX05.out.below hb6 (Nat.lt_of_lt_of_le hxx0 hsz5))
          have HX16 := Lib.hid (HX15.out.below hb6 (Nat.lt_of_lt_of_le hxx1 hsz5))
          have HX26 := Lib.hid (HX25.out.below hb6 (Nat.lt_of_lt_of_le hxx2 hsz5))
          have HLa6 := Lib.hid (HLa5.out.below hb6 HLa5.out.lt)
          have HNd6 := Lib.hid (HNd5.out.now hb6)
          have HLf6 := Lib.hid (HLf5.out.now hb6)
          have HM6 := Lib.hid (HM5.out.now hb6)
          have HBv6 := Lib.hid (HBv5.out.now hb6)
          have HR16 := Lib.hid (HR15.out.now hb6)
          have HR26 := Lib.hid (HR25.out.now hb6)
          have HOp6 := Lib.hid (HOp5.out.now hb6)
          have HXa6 := Lib.hid (HXa5.out.now hb6)
          have HYa6 := Lib.hid (HYa5.out.now hb6)
          have HXb6 := Lib.hid (HXb5.out.now hb6)
          have HYb6 := Lib.hid (HYb5.out.now hb6)
          clear hx6 hon6 hb6))
    have HS : Hid (∀ W, Below w6.heap.size w6 W → (fun W => Below w6.heap.size w6 W ∧ Blk W w3.heap.size 30 #[xa, ya, .int .i64 b'] ∧ Blk W w5.heap.size 30 #[xb, yb, .int .i64 b'] ∧ Blk W (w.heap.size + 1) 30 #[v1, v2, .int .i64 bg]) W) := fun W hB => ⟨hB, HLa6.out.below hB HLa6.out.lt, HLb6.out.below hB HLb6.out.lt, HX16.out.below hB (Nat.lt_of_lt_of_le hxx1 hsz6)⟩
    have h0 := HS.out _ ((Below.refl w6.heap.size w6).drew)
    have HXa6d : Hid (RowV w6.drew w6.drew.heap.size xa P) := hide HXa6.out
    have HXb6d : Hid (RowV w6.drew w6.drew.heap.size xb P) := hide HXb6.out
    have HYa6d : Hid (StrV Sw.cells 4 w6.drew w6.drew.heap.size ya S) := hide HYa6.out
    have HYb6d : Hid (StrV Sw.cells 4 w6.drew w6.drew.heap.size yb S) := hide HYb6.out
    obtain ⟨dn, hdn⟩ : ∃ x, doneB runs sw = x := ⟨_, rfl⟩
    obtain ⟨fn, hfn⟩ : ∃ x, foundN sw = x := ⟨_, rfl⟩
    have g1 : (e' == e') = true := beq_self_eq_true e'
    have g2 : (dn == dn) = true := beq_self_eq_true dn
    have g3 : (fn == fn) = true := beq_self_eq_true fn
    refine wp_region_held_drew (S := fun W => Below w6.heap.size w6 W ∧ Blk W w3.heap.size 30 #[xa, ya, .int .i64 b'] ∧ Blk W w5.heap.size 30 #[xb, yb, .int .i64 b'] ∧ Blk W (w.heap.size + 1) 30 #[v1, v2, .int .i64 bg]) (by kernel_rfl) (h0) (fun hHeld => ?_)
    refine held_load 0 (some 40) 30 (.tmp 9) (by rfl) (by kernel_rfl) (by kernel_rfl) (by kernel_rfl) (w3.heap.size) 30 #[xa, ya, .int .i64 b'] (fun _ _ _ h => h) (by rfl) (fun _ h => h.2.1) _ Try.underlying30 rfl (by kernel_rfl) (by assumption) ?_
    try simp only [Act.put, List.setIfInBounds_toArray, List.set_cons_zero, List.set_cons_succ]
    refine held_load 1 (some 41) 30 (.tmp 11) (by rfl) (by kernel_rfl) (by kernel_rfl) (by kernel_rfl) (w5.heap.size) 30 #[xb, yb, .int .i64 b'] (fun _ _ _ h => h) (by rfl) (fun _ h => h.2.2.1) _ Try.underlying30 rfl (by kernel_rfl) (by assumption) ?_
    try simp only [Act.put, List.setIfInBounds_toArray, List.set_cons_zero, List.set_cons_succ]
    refine held_call 2 (some 42) 23 [(.tmp 40), (.tmp 41)] #[30, 30] #[.agg #[xa, ya, .int .i64 b'], .agg #[xb, yb, .int .i64 b']] (by rfl) (by rfl) (by kernel_rfl) Try.func23 (by rfl) (by rfl) ?_
    refine (rsame_any xa ya xb yb b' P S _ HXa6d.out HYa6d.out HXb6d.out HYb6d.out).mono ?_
    rintro e w7 ⟨rfl, hb7⟩
    have hbb : Below w6.heap.size w6 w7 := (Below.refl w6.heap.size w6).drew.trans hb7
    have HQ7 := Lib.hid hbb
    have HB7 := Lib.hid (HB6.out.trans (hbb.mono hsz6))
    have HW7 := Lib.hid (HW6.out.trans (hbb.mono HW6.out.size))
    have hsz7 : wb.heap.size ≤ w7.heap.size := Nat.le_trans hsz6 hbb.size
    have HX17 := Lib.hid (HX16.out.below hbb (Nat.lt_of_lt_of_le hxx1 hsz6))
    have HR17 := Lib.hid (HR16.out.now hbb)
    have HR27 := Lib.hid (HR26.out.now hbb)
    clear h0
    have h0 := HS.out _ HQ7.out
    refine ⟨_, rfl, h0, ?_⟩
    clear hb7 hbb
    try simp only [Act.put, List.setIfInBounds_toArray, List.set_cons_zero, List.set_cons_succ]
    refine held_run 3 (some 43) (.move (.tmp 42)) ?v7_1_5 (by rfl) (by kernel_rfl) (by kernel_rfl) (by kernel_rfl) (fun _ _ _ h => h) (fun o ho w hS => ?y7_1_5) (by assumption) ?r7_1_5
    case y7_1_5 => (try dsimp only at hS); unfold execOp; simp only [ho]; go_simp; try with_reducible rfl
    try simp only [Act.put, List.setIfInBounds_toArray, List.set_cons_zero, List.set_cons_succ]
    refine held_run 4 (some 44) (.move (.tmp 10)) ?v7_1_6 (by rfl) (by kernel_rfl) (by kernel_rfl) (by kernel_rfl) (fun _ _ _ h => h) (fun o ho w hS => ?y7_1_6) (by assumption) ?r7_1_6
    case y7_1_6 => (try dsimp only at hS); unfold execOp; simp only [ho]; go_simp; try with_reducible rfl
    try simp only [Act.put, List.setIfInBounds_toArray, List.set_cons_zero, List.set_cons_succ]
    refine held_run 5 (some 45) (.move (.tmp 12)) ?v7_1_7 (by rfl) (by kernel_rfl) (by kernel_rfl) (by kernel_rfl) (fun _ _ _ h => h) (fun o ho w hS => ?y7_1_7) (by assumption) ?r7_1_7
    case y7_1_7 => (try dsimp only at hS); unfold execOp; simp only [ho]; go_simp; try with_reducible rfl
    try simp only [Act.put, List.setIfInBounds_toArray, List.set_cons_zero, List.set_cons_succ]
    refine held_run 6 (some 46) (.binOp .eql 32 (.tmp 44) (.tmp 45) 32) ?v7_1_8 (by rfl) (by kernel_rfl) (by kernel_rfl) (by kernel_rfl) (fun _ _ _ h => h) (fun o ho w hS => ?y7_1_8) (by assumption) ?r7_1_8
    case y7_1_8 => (try dsimp only at hS); unfold execOp; simp only [ho]; go_simp; try with_reducible rfl
    try simp only [Act.put, List.setIfInBounds_toArray, List.set_cons_zero, List.set_cons_succ]
    refine held_run 7 (some 47) (.pick (.tmp 43) (.tmp 46) (.const (Value.bool false))) ?v7_1_9 (by rfl) (by kernel_rfl) (by kernel_rfl) (by kernel_rfl) (fun _ _ _ h => h) (fun o ho w hS => ?y7_1_9) (by assumption) ?r7_1_9
    case y7_1_9 => (try dsimp only at hS); unfold execOp; simp only [ho]; go_simp; try with_reducible rfl
    try simp only [Act.put, List.setIfInBounds_toArray, List.set_cons_zero, List.set_cons_succ]
    refine held_run 8 (some 48) (.move (.tmp 47)) ?v7_1_10 (by rfl) (by kernel_rfl) (by kernel_rfl) (by kernel_rfl) (fun _ _ _ h => h) (fun o ho w hS => ?y7_1_10) (by assumption) ?r7_1_10
    case y7_1_10 => (try dsimp only at hS); unfold execOp; simp only [ho]; go_simp; try with_reducible rfl
    try simp only [Act.put, List.setIfInBounds_toArray, List.set_cons_zero, List.set_cons_succ]
    refine held_load 9 (some 49) 30 (.tmp 5) (by rfl) (by kernel_rfl) (by kernel_rfl) (by kernel_rfl) (w.heap.size + 1) 30 #[v1, v2, .int .i64 bg] (fun _ _ _ h => h) (by rfl) (fun _ h => h.2.2.2) _ Try.underlying30 rfl (by kernel_rfl) (by assumption) ?_
    try simp only [Act.put, List.setIfInBounds_toArray, List.set_cons_zero, List.set_cons_succ]
    refine held_load 11 (some 51) 30 (.tmp 5) (by rfl) (by kernel_rfl) (by kernel_rfl) (by kernel_rfl) (w.heap.size + 1) 30 #[v1, v2, .int .i64 bg] (fun _ _ _ h => h) (by rfl) (fun _ h => h.2.2.2) _ Try.underlying30 rfl (by kernel_rfl) (by assumption) ?_
    try simp only [Act.put, List.setIfInBounds_toArray, List.set_cons_zero, List.set_cons_succ]
    refine held_call 10 (some 50) 24 [(.tmp 49)] #[30] #[.agg #[v1, v2, .int .i64 bg]] (by rfl) (by rfl) (by kernel_rfl) Try.func24 (by rfl) (by rfl) ?_
    refine (show Calls _ _ _ _ (fun e w' => e = .returned (.bool dn) ∧ Below _ _ w') from hdn ▸ done_any v1 v2 bg runs sw _ HR17.out HR27.out hlim2).mono ?_
    rintro e w8 ⟨rfl, hb8⟩
    have HQ8 := Lib.hid (HQ7.out.trans (hb8.mono HQ7.out.size))
    have HB8 := Lib.hid (HB7.out.trans (hb8.mono hsz7))
    have HW8 := Lib.hid (HW7.out.trans (hb8.mono HW7.out.size))
    have hsz8 : wb.heap.size ≤ w8.heap.size := Nat.le_trans hsz7 hb8.size
    have HX18 := Lib.hid (HX17.out.below hb8 (Nat.lt_of_lt_of_le hxx1 hsz7))
    have HR18 := Lib.hid (HR17.out.now hb8)
    have HR28 := Lib.hid (HR27.out.now hb8)
    clear h0
    have h0 := HS.out _ HQ8.out
    refine ⟨_, rfl, h0, ?_⟩
    clear hb8
    try simp only [Act.put, List.setIfInBounds_toArray, List.set_cons_zero, List.set_cons_succ]
    refine held_call 12 (some 52) 25 [(.tmp 51)] #[30] #[.agg #[v1, v2, .int .i64 bg]] (by rfl) (by rfl) (by kernel_rfl) Try.func25 (by rfl) (by rfl) ?_
    refine (show Calls _ _ _ _ (fun e w' => e = .returned (.bool dn) ∧ Below _ _ w') from hdn ▸ rdone_any v1 v2 bg runs sw _ HR18.out HR28.out).mono ?_
    rintro e w9 ⟨rfl, hb9⟩
    have HQ9 := Lib.hid (HQ8.out.trans (hb9.mono HQ8.out.size))
    have HB9 := Lib.hid (HB8.out.trans (hb9.mono hsz8))
    have HW9 := Lib.hid (HW8.out.trans (hb9.mono HW8.out.size))
    have hsz9 : wb.heap.size ≤ w9.heap.size := Nat.le_trans hsz8 hb9.size
    have HX19 := Lib.hid (HX18.out.below hb9 (Nat.lt_of_lt_of_le hxx1 hsz8))
    have HR19 := Lib.hid (HR18.out.now hb9)
    have HR29 := Lib.hid (HR28.out.now hb9)
    clear h0
    have h0 := HS.out _ HQ9.out
    refine ⟨_, rfl, h0, ?_⟩
    clear hb9
    try simp only [Act.put, List.setIfInBounds_toArray, List.set_cons_zero, List.set_cons_succ]
    refine held_run 13 (some 53) (.binOp .eql 4 (.tmp 50) (.tmp 52) 4) ?v7_1_15 (by rfl) (by kernel_rfl) (by kernel_rfl) (by kernel_rfl) (fun _ _ _ h => h) (fun o ho w hS => ?y7_1_15) (by assumption) ?r7_1_15
    case y7_1_15 => (try dsimp only at hS); unfold execOp; simp only [ho]; go_simp; try with_reducible rfl
    try simp only [Act.put, List.setIfInBounds_toArray, List.set_cons_zero, List.set_cons_succ]
    refine held_run 14 (some 54) (.pick (.tmp 48) (.tmp 53) (.const (Value.bool false))) ?v7_1_16 (by rfl) (by kernel_rfl) (by kernel_rfl) (by kernel_rfl) (fun _ _ _ h => h) (fun o ho w hS => ?y7_1_16) (by assumption) ?r7_1_16
    case y7_1_16 => (try dsimp only at hS); unfold execOp; simp only [ho]; go_simp; try with_reducible rfl
    try simp only [Act.put, List.setIfInBounds_toArray, List.set_cons_zero, List.set_cons_succ]
    refine held_run 15 (some 55) (.move (.tmp 54)) ?v7_1_17 (by rfl) (by kernel_rfl) (by kernel_rfl) (by kernel_rfl) (fun _ _ _ h => h) (fun o ho w hS => ?y7_1_17) (by assumption) ?r7_1_17
    case y7_1_17 => (try dsimp only at hS); unfold execOp; simp only [ho]; go_simp; try with_reducible rfl
    try simp only [Act.put, List.setIfInBounds_toArray, List.set_cons_zero, List.set_cons_succ]
    refine held_load 16 (some 56) 30 (.tmp 5) (by rfl) (by kernel_rfl) (by kernel_rfl) (by kernel_rfl) (w.heap.size + 1) 30 #[v1, v2, .int .i64 bg] (fun _ _ _ h => h) (by rfl) (fun _ h => h.2.2.2) _ Try.underlying30 rfl (by kernel_rfl) (by assumption) ?_
    try simp only [Act.put, List.setIfInBounds_toArray, List.set_cons_zero, List.set_cons_succ]
    refine held_load 18 (some 58) 30 (.tmp 5) (by rfl) (by kernel_rfl) (by kernel_rfl) (by kernel_rfl) (w.heap.size + 1) 30 #[v1, v2, .int .i64 bg] (fun _ _ _ h => h) (by rfl) (fun _ h => h.2.2.2) _ Try.underlying30 rfl (by kernel_rfl) (by assumption) ?_
    try simp only [Act.put, List.setIfInBounds_toArray, List.set_cons_zero, List.set_cons_succ]
    refine held_call 17 (some 57) 26 [(.tmp 56)] #[30] #[.agg #[v1, v2, .int .i64 bg]] (by rfl) (by rfl) (by kernel_rfl) Try.func26 (by rfl) (by rfl) ?_
    refine (show Calls _ _ _ _ (fun e w' => e = .returned (.int .i64 fn) ∧ Below _ _ w') from hfn ▸ found_any v1 v2 bg sw _ HR29.out hlim2 hbd).mono ?_
    rintro e w10 ⟨rfl, hb10⟩
    have HQ10 := Lib.hid (HQ9.out.trans (hb10.mono HQ9.out.size))
    have HB10 := Lib.hid (HB9.out.trans (hb10.mono hsz9))
    have HW10 := Lib.hid (HW9.out.trans (hb10.mono HW9.out.size))
    have hsz10 : wb.heap.size ≤ w10.heap.size := Nat.le_trans hsz9 hb10.size
    have HX110 := Lib.hid (HX19.out.below hb10 (Nat.lt_of_lt_of_le hxx1 hsz9))
    have HR110 := Lib.hid (HR19.out.now hb10)
    have HR210 := Lib.hid (HR29.out.now hb10)
    clear h0
    have h0 := HS.out _ HQ10.out
    refine ⟨_, rfl, h0, ?_⟩
    clear hb10
    try simp only [Act.put, List.setIfInBounds_toArray, List.set_cons_zero, List.set_cons_succ]
    refine held_call 19 (some 59) 27 [(.tmp 58)] #[30] #[.agg #[v1, v2, .int .i64 bg]] (by rfl) (by rfl) (by kernel_rfl) Try.func27 (by rfl) (by rfl) ?_
    refine (show Calls _ _ _ _ (fun e w' => e = .returned (.int .i64 fn) ∧ Below _ _ w') from hfn ▸ rfound_any v1 v2 bg sw _ HR210.out hlim2 hbd).mono ?_
    rintro e w11 ⟨rfl, hb11⟩
    have HQ11 := Lib.hid (HQ10.out.trans (hb11.mono HQ10.out.size))
    have HB11 := Lib.hid (HB10.out.trans (hb11.mono hsz10))
    have HW11 := Lib.hid (HW10.out.trans (hb11.mono HW10.out.size))
    have hsz11 : wb.heap.size ≤ w11.heap.size := Nat.le_trans hsz10 hb11.size
    have HX111 := Lib.hid (HX110.out.below hb11 (Nat.lt_of_lt_of_le hxx1 hsz10))
    have HR111 := Lib.hid (HR110.out.now hb11)
    have HR211 := Lib.hid (HR210.out.now hb11)
    clear h0
    have h0 := HS.out _ HQ11.out
    refine ⟨_, rfl, h0, ?_⟩
    clear hb11
    try simp only [Act.put, List.setIfInBounds_toArray, List.set_cons_zero, List.set_cons_succ]
    refine held_run 20 (some 60) (.binOp .eql 3 (.tmp 57) (.tmp 59) 3) ?v7_1_22 (by rfl) (by kernel_rfl) (by kernel_rfl) (by kernel_rfl) (fun _ _ _ h => h) (fun o ho w hS => ?y7_1_22) (by assumption) ?r7_1_22
    case y7_1_22 => (try dsimp only at hS); unfold execOp; simp only [ho]; go_simp; try with_reducible rfl
    try simp only [Act.put, List.setIfInBounds_toArray, List.set_cons_zero, List.set_cons_succ]
    refine held_run 21 (some 61) (.pick (.tmp 55) (.tmp 60) (.const (Value.bool false))) ?v7_1_23 (by rfl) (by kernel_rfl) (by kernel_rfl) (by kernel_rfl) (fun _ _ _ h => h) (fun o ho w hS => ?y7_1_23) (by assumption) ?r7_1_23
    case y7_1_23 => (try dsimp only at hS); unfold execOp; simp only [ho]; go_simp; try with_reducible rfl
    try simp only [Act.put, List.setIfInBounds_toArray, List.set_cons_zero, List.set_cons_succ]
    refine held_run 22 (some 8) (.assign (.tmp 61)) ?v7_1_24 (by rfl) (by kernel_rfl) (by kernel_rfl) (by kernel_rfl) (fun _ _ _ h => h) (fun o ho w hS => ?y7_1_24) (by assumption) ?r7_1_24
    case y7_1_24 => (try dsimp only at hS); unfold execOp; simp only [ho]; go_simp; try with_reducible rfl
    try simp only [Act.put, List.setIfInBounds_toArray, List.set_cons_zero, List.set_cons_succ]
    refine wpAnyH_done (by kernel_rfl) ?_ _
    clear h0 HS
    go_wp2_with fail
    go_ret
    exact ⟨rfl, HW11.out⟩


theorem own_sweepDoes : ownKnob Try.prog.godebug = none := by kernel_rfl
theorem laidOut_sweepDoes : laidOutB Try.prog = true := by kernel_rfl
set_option maxRecDepth 100000 in
theorem sweepDoes_lifted (os : Os) (started : os.Started) (H : Type) (enc : TypeId × Value → H) :
    ReturnsInHanded {} Try.checked os 5 .any (Rows.sweepDoesSpec.pre6 enc Try.prog Try.f5 Rows.sweepDoesRow.domain false) (Rows.sweepDoesSpec.post enc Try.prog Try.f5 false true false false) := by
  refine returnsInHanded_of_change (C := Try.checked) own_sweepDoes started (by kernel_rfl) Try.func5
    (ChangeSpec.witness6 (enc := enc) (C := Try.checked) false ⟨#[], #[.agg #[.slice none 0 0, .slice none 0 0, .slice none 0 0, .slice none 0 0], .agg #[.slice none 0 0, .slice none 0 0, .int .i64 0], .slice none 0 0, .agg #[.int .i64 0, .int .i64 0, .int .i64 0, .int .i64 0]], []⟩ 8 (by kernel_rfl) (by kernel_rfl) (by kernel_rfl) (by kernel_rfl)) ?_
  intro W base args ds gs before hval0 hW hcnd _
  have hval : ∀ (j : Nat) t v, Try.f5.params[j]? = some t → args[j]? = some v → Value.okWide Try.prog W .any base t v := hval0
  have hW' := hW
  obtain ⟨p, q, hA0, hV, rfl, hfz, hnd⟩ := hW
  have hA : DataW.TrodAll enc Try.prog W 0 (fun _ => true) true Try.f5.params.toList args.toList ds p := hA0
  rw [Try.params5] at hA hval
  obtain ⟨v0, vs0, d0, ds0, p0, q0, hargs, rfl, rfl, h0, r0⟩ := trodAll_cons hA
  obtain ⟨v1, vs1, d1, ds1, p1, q1, rfl, rfl, rfl, h1, r1⟩ := trodAll_cons r0
  obtain ⟨v2, vs2, d2, ds2, p2, q2, rfl, rfl, rfl, h2, r2⟩ := trodAll_cons r1
  obtain ⟨v3, vs3, d3, ds3, p3, q3, rfl, rfl, rfl, h3, r3⟩ := trodAll_cons r2
  obtain ⟨rfl, rfl, rfl⟩ := trodAll_nil r3
  obtain rfl : args = #[v0, v1, v2, v3] := by cases args; simp_all
  obtain ⟨rfl, rfl⟩ := trodVars_none hV
  obtain ⟨vn, vl, vr, vb, nd, lf, rs, bs, rfl, hnd, hlf, hrs, hbs⟩ := open_map (hval 0 27 v0 rfl rfl) h0
  obtain ⟨s1, s2, bg, runs, sw, rfl, hru, hsw⟩ := open_sweep (hval 1 30 v1 rfl rfl) h1
  obtain ⟨qqA, qqn, qqc, qq, rfl, qq1, qq2, qqr, qqw⟩ := open_ints_any Try.underlying25 Try.underlying3 (by kernel_rfl) (hval 2 25 v2 rfl rfl) h2
  obtain ⟨q, rfl⟩ := open_swept (hval 3 39 v3 rfl rfl) h3
  refine (sweepDoes_any W vn vl vr vb nd lf rs bs hnd hlf hrs hbs s1 s2 bg runs sw hru hsw qqA qqn qqc qq qq1 qq2 qqr qqw q).mono fun e W' ⟨he, hb⟩ => ?_
  subst he
  exact ⟨_, rfl, law_post laidOut_sweepDoes (by kernel_rfl) rfl rfl Try.underlying4 hW' rfl hb⟩

theorem sweepDoes_holds : Rows.SweepDoesSaid :=
  OpenClaim.holds_of_wide 5 Try.f5 rfl rfl rfl rfl rfl rfl rfl ⟨rfl, rfl, rfl, rfl, rfl⟩ rfl rfl rfl rfl rfl (by kernel_rfl) Try.func5 (by kernel_rfl)
    (of_decide_eq_true (by kernel_rfl)) (by unfold Func.isWrapper; rw [if_neg (by decide +kernel)]; exact ⟨rfl, rfl⟩)
    (fun os started H enc _ => sweepDoes_lifted os started H enc)
#print axioms sweepDoes_holds
end Go.Proofs.Yticoeibccdplaaa
