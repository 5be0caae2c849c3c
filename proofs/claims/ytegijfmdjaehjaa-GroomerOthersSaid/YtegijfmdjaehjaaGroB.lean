/-
  The closure of graph.Shortest, walked.
-/
import Derived.Test.YtegijfmdjaehjaaGroA
namespace Go.Proofs.Ytegijfmdjaehjaa
open Go.RowKit

/-- the edge leads on from nv along a least walk -/
def hitE (f : DM) (nv : Int) (e : Ed) : Bool := match f e.tt with
  | none => false
  | some a => e.fr == nv && (((f nv).getD (0, 0)).1 == a.1 + e.cst && ((f nv).getD (0, 0)).2 == a.2 + 1)
theorem hit_none {f : DM} {nv : Int} {e : Ed} (h : f e.tt = none) : hitE f nv e = false := by unfold hitE; rw [h]
theorem hit_some {f : DM} {nv : Int} {e : Ed} {a : Int × Int} (h : f e.tt = some a) : hitE f nv e = (e.fr == nv && (((f nv).getD (0, 0)).1 == a.1 + e.cst && ((f nv).getD (0, 0)).2 == a.2 + 1)) := by unfold hitE; rw [h]

set_option maxRecDepth 100000 in
set_option maxHeartbeats 4000000 in
theorem shc_any (b nm g9 g13 : Nat) (f : DM) (M : Int) (nv ei fr tt cst : Int) (w : World) (hm : MapV Try.prog 3 enL w b nm f) (h9 : Blk w g9 89 #[.map (some b)]) (h13 : Blk w g13 3 #[.int .i64 nv])
    (hD : BndD f M) (hM : 0 ≤ M ∧ M ≤ 1000000) (hc : 0 ≤ cst ∧ cst ≤ 1000000) (_ : 0 ≤ fr ∧ fr ≤ 1000000) (htt : 0 ≤ tt ∧ tt ≤ 1000000) (hnv : 0 ≤ nv ∧ nv ≤ 1000000) :
    Calls Try.prog 58 #[.agg #[.int .i64 ei, .int .i64 fr, .int .i64 tt, .int .i64 cst], .pointer (some ⟨g9, 0, none⟩), .pointer (some ⟨g13, 0, none⟩)] w fun e w' => e = .returned (.bool (hitE f nv ⟨ei, fr, tt, cst⟩)) ∧ Below w.heap.size w w' := by
  have HM := Lib.hid hm
  have H9 := Lib.hid h9
  have H13 := Lib.hid h13
  have HD := Lib.hid hD
  have HWt := Lib.hid (wf_small htt)
  have HWn := Lib.hid (wf_small hnv)
  obtain ⟨r, hr⟩ : ∃ r, hitE f nv ⟨ei, fr, tt, cst⟩ = r := ⟨_, rfl⟩
  have HRe := Lib.hid hr
  rw [hr]
  clear hm h9 h13 hD htt hnv hr
  go_enter Try.func58, Try.ntmps58
  go_upto_region 1 with (fail)
  have HBw0 := (Blk.new w 96 #[.int .i64 ei, .int .i64 fr, .int .i64 tt, .int .i64 cst])
  have HLw0 := (below_new w (.cells #[.int .i64 ei, .int .i64 fr, .int .i64 tt, .int .i64 cst] 96))
  have hsw0 : (w.alloc (.cells #[.int .i64 ei, .int .i64 fr, .int .i64 tt, .int .i64 cst] 96)).heap.size = w.heap.size + 1 := by simp
  generalize w.alloc (.cells #[.int .i64 ei, .int .i64 fr, .int .i64 tt, .int .i64 cst] 96) = w0 at HBw0 HLw0 hsw0 ⊢
  replace HBw0 := Lib.hid HBw0
  replace HLw0 := Lib.hid HLw0
  have hlw0 : w.heap.size < w0.heap.size := by omega
  replace hsw0 := Lib.hid hsw0
  have HM0 := Lib.hid (HM.out.below HLw0.out HM.out.lt)
  have c9 : w0.cell? ⟨g9, 0, none⟩ = some (.map (some b)) := (H9.out.below HLw0.out H9.out.lt).cell 0
  have e0 : w0.cell? ⟨w.heap.size, 0, none⟩ = some (.int .i64 ei) := HBw0.out.cell 0
  have e1 : w0.cell? ⟨w.heap.size, 1, none⟩ = some (.int .i64 fr) := HBw0.out.cell 1
  have e2 : w0.cell? ⟨w.heap.size, 2, none⟩ = some (.int .i64 tt) := HBw0.out.cell 2
  have e3 : w0.cell? ⟨w.heap.size, 3, none⟩ = some (.int .i64 cst) := HBw0.out.cell 3
  obtain ⟨⟨a1, a2⟩, hav⟩ : ∃ q, (f tt).getD (0, 0) = q := ⟨_, rfl⟩
  obtain ⟨is, his⟩ : ∃ q, (f tt).isSome = q := ⟨_, rfl⟩
  have hlook : (Instr.lookup 89 (.map (some b)) (.int .i64 tt) true).run Try.prog w0 = .ok (.tuple #[.agg #[.int .i64 a1, .int .i64 a2], .bool is]) w0 := by
    have h := HM0.out.look enL_inj keyed_int Try.underlying89 (zero_len w0) Try.underlying3 HWt.out
    rw [hav, his] at h
    exact h
  have HAv := Lib.hid hav
  have HIs := Lib.hid his
  clear hav his
  go_upto_region 2 with (fail)
  clear hlook e0 e1 e2 e3 c9
  have HBw1 := (Blk.new w0 92 #[.int .i64 a1, .int .i64 a2])
  have HLw1 := (below_new w0 (.cells #[.int .i64 a1, .int .i64 a2] 92))
  have hsw1 : (w0.alloc (.cells #[.int .i64 a1, .int .i64 a2] 92)).heap.size = w0.heap.size + 1 := by simp
  generalize w0.alloc (.cells #[.int .i64 a1, .int .i64 a2] 92) = w1 at HBw1 HLw1 hsw1 ⊢
  replace HBw1 := Lib.hid HBw1
  replace HLw1 := Lib.hid HLw1
  have hlw1 : w0.heap.size < w1.heap.size := by omega
  replace hsw1 := Lib.hid hsw1
  have HB1 : Hid (Below w.heap.size w w1) := hide (HLw0.out.trans (HLw1.out.mono HLw0.out.size))
  have HX1 := Lib.hid (HBw0.out.below HLw1.out hlw0)
  have HM1 := Lib.hid (HM0.out.below HLw1.out HM0.out.lt)
  cases is with
  | false =>
    have HNo : Hid (f tt = none) := by
      show _ = _
      cases h : f tt with
      | none => rfl
      | some _ => have := HIs.out; rw [h] at this; cases this
    have HR2 : Hid (r = false) := hide (HRe.out.symm.trans (hit_none HNo.out))
    go_wp2_with fail
    go_ret
    exact ⟨ret_bg HR2.out.symm, HB1.out⟩
  | true =>
    have HSo : Hid (f tt = some (a1, a2)) := by
      show _ = _
      cases h : f tt with
      | none => have := HIs.out; rw [h] at this; cases this
      | some q => have := HAv.out; rw [h] at this; exact congrArg some this
    have HR2 := Lib.hid (HRe.out.symm.trans (hit_some (nv := nv) (e := ⟨ei, fr, tt, cst⟩) HSo.out))
    have hbd := HD.out _ _ HSo.out
    simp only at hbd HR2
    have c9 : w1.cell? ⟨g9, 0, none⟩ = some (.map (some b)) := (H9.out.below HB1.out H9.out.lt).cell 0
    have c13 : w1.cell? ⟨g13, 0, none⟩ = some (.int .i64 nv) := (H13.out.below HB1.out H13.out.lt).cell 0
    have e0 : w1.cell? ⟨w.heap.size, 0, none⟩ = some (.int .i64 ei) := HX1.out.cell 0
    have e1 : w1.cell? ⟨w.heap.size, 1, none⟩ = some (.int .i64 fr) := HX1.out.cell 1
    have e2 : w1.cell? ⟨w.heap.size, 2, none⟩ = some (.int .i64 tt) := HX1.out.cell 2
    have e3 : w1.cell? ⟨w.heap.size, 3, none⟩ = some (.int .i64 cst) := HX1.out.cell 3
    have y0 : w1.cell? ⟨w0.heap.size, 0, none⟩ = some (.int .i64 a1) := HBw1.out.cell 0
    have y1 : w1.cell? ⟨w0.heap.size, 1, none⟩ = some (.int .i64 a2) := HBw1.out.cell 1
    by_cases h1 : fr = nv
    · have d1 : (fr == nv) = true := beq_iff_eq.2 h1
      rw [d1] at HR2
      obtain ⟨⟨n1, n2⟩, hnv⟩ : ∃ q, (f nv).getD (0, 0) = q := ⟨_, rfl⟩
      have hlook : (Instr.lookup 89 (.map (some b)) (.int .i64 nv) false).run Try.prog w1 = .ok (.agg #[.int .i64 n1, .int .i64 n2]) w1 := by
        have h := HM1.out.look1 enL_inj keyed_int Try.underlying89 (zero_len w1) Try.underlying3 HWn.out
        rw [hnv] at h
        exact h
      rw [hnv] at HR2
      simp only [Bool.true_and] at HR2
      clear h1 hnv
      obtain ⟨b1, hb1⟩ : ∃ q, (n1 == a1 + cst) = q := ⟨_, rfl⟩
      obtain ⟨b2, hb2⟩ : ∃ q, (n2 == a2 + 1) = q := ⟨_, rfl⟩
      rw [hb1, hb2] at HR2
      cases b1 <;> cases b2 <;>
        (go_wp2_with fail
         go_ret
         exact ⟨ret_bg HR2.out.symm, HB1.out⟩)
    · have d1 : (fr == nv) = false := beq_eq_false_iff_ne.2 h1
      have HR3 : Hid (r = false) := by show _ = _; rw [HR2.out, d1]; rfl
      clear h1
      go_wp2_with fail
      go_ret
      exact ⟨ret_bg HR3.out.symm, HB1.out⟩
end Go.Proofs.Ytegijfmdjaehjaa
