/-
  defined of the law of chapter 45, walked; what a map that is right says about ways.
-/
import Derived.Test.YtegijfmdjaehjaaGruR
import Derived.Test.YtegijfmdjaehjaaTerU
namespace Go.Proofs.Ytegijfmdjaehjaa
open Go.RowKit

theorem MapOK.nod {nd : List Nd} {lf : List Lf} {rs : List Rn} {bs : List Int} (h : MapOK nd lf rs bs) {i : Int} (hi : hasN nd i = true) : 1 ≤ i ∧ i ≤ 9999 := by
  obtain ⟨x, hx, rfl⟩ := List.mem_map.1 (hasN_iff.1 hi)
  exact (h.nodes x hx).1
theorem MapOK.wy {nd : List Nd} {lf : List Lf} {rs : List Rn} {bs : List Int} (h : MapOK nd lf rs bs) : WyOK nd lf rs := by
  refine ⟨h.l2, h.l3, fun x hx => ?_, fun x hx => ?_, fun i hi => ?_⟩
  · obtain ⟨h1, h2, h3, h4⟩ := h.lifts x hx
    have := h.nod h1
    have := h.nod h2
    omega
  · obtain ⟨_, h1, h2, _, _, h3, h4⟩ := h.runs x hx
    have := h.nod h1
    have := h.nod h2
    omega
  · have := h.nod hi
    omega
theorem MapOK.rw {nd : List Nd} {lf : List Lf} {rs : List Rn} {bs : List Int} (h : MapOK nd lf rs bs) : RwOK nd lf rs := by
  refine ⟨h.l1, h.l2, h.l3, fun x hx => ?_, fun x hx => ?_⟩
  · obtain ⟨h1, h2, h3, h4⟩ := h.lifts x hx
    exact ⟨h1, h2, by omega, by omega⟩
  · obtain ⟨_, h1, h2, _, _, h3, h4⟩ := h.runs x hx
    exact ⟨h1, h2, by omega, by omega⟩
theorem MapOK.cost {nd : List Nd} {lf : List Lf} {rs : List Rn} {bs : List Int} (h : MapOK nd lf rs bs) : ∀ e ∈ lnE lf rs, 0 ≤ e.cst := fun e he => (h.wy.edges e he).2.2.1
theorem way_some {nd : List Nd} {lf : List Lf} {rs : List Rn} {bs : List Int} (h : MapOK nd lf rs bs) {u v n : Int} (hw : wayO nd lf rs u v = some n) : hasN nd u = true ∧ hasN nd v = true ∧ IsCost (lnE lf rs) u v n := by
  unfold wayO at hw
  split at hw
  · rename_i hh
    cases ha : lengthsD (lnE lf rs) v u with
    | none => rw [ha] at hw; cases hw
    | some a =>
      rw [ha] at hw
      simp only [Option.map_some, Option.some.injEq] at hw
      rw [← hw]
      exact ⟨hh.1, hh.2, (lengths_is h.cost v).cost ha⟩
  · cases hw
theorem way_walk {nd : List Nd} {lf : List Lf} {rs : List Rn} {bs : List Int} (h : MapOK nd lf rs bs) {u v : Int} {p : List Ed} (hu : hasN nd u = true) (hv : hasN nd v = true) (hp : IsW (lnE lf rs) u p v) : ∃ n, wayO nd lf rs u v = some n := by
  rw [wayO_yes hu hv]
  cases ha : lengthsD (lnE lf rs) v u with
  | none => exact absurd hp ((lengths_is h.cost v).none_ ha p)
  | some a => exact ⟨_, rfl⟩
theorem way_back {nd : List Nd} {lf : List Lf} {rs : List Rn} {bs : List Int} (h : MapOK nd lf rs bs) (u v : Int) : wayO nd lf rs u v = wayO nd lf rs v u := by
  have one : ∀ u v n, wayO nd lf rs u v = some n → wayO nd lf rs v u = some n := fun u v n hw => by
    obtain ⟨h1, h2, h3⟩ := way_some h hw
    have h4 := h3.back (lnE_both lf rs)
    obtain ⟨p, hp, _⟩ := h4.1
    obtain ⟨m, hm⟩ := way_walk h h2 h1 hp
    rw [hm, (way_some h hm).2.2.unique h4]
  cases h1 : wayO nd lf rs u v with
  | some n => exact (one u v n h1).symm
  | none =>
    cases h2 : wayO nd lf rs v u with
    | none => rfl
    | some n => rw [one v u n h2] at h1; cases h1
theorem way_tri {nd : List Nd} {lf : List Lf} {rs : List Rn} {bs : List Int} (h : MapOK nd lf rs bs) {a b c x z : Int} (h1 : wayO nd lf rs a b = some x) (h2 : wayO nd lf rs b c = some z) : ∃ y, wayO nd lf rs a c = some y ∧ y ≤ x + z := by
  obtain ⟨a1, a2, a3⟩ := way_some h h1
  obtain ⟨b1, b2, b3⟩ := way_some h h2
  obtain ⟨p, hp, _⟩ := a3.1
  obtain ⟨q, hq, _⟩ := b3.1
  obtain ⟨y, hy⟩ := way_walk h a1 b2 (hp.app hq)
  exact ⟨y, hy, a3.tri b3 (way_some h hy).2.2⟩
theorem OkG.inn {l : List Gr} (h : OkG l) : ∀ x ∈ l, inG x = true := fun x hx => (h.each x hx).1
theorem defR_no {p : Prop} {w w' : World} (hb : Below w.heap.size w w') : DefR p w (.returned (.bool false)) w' := ⟨false, rfl, (fun h => by cases h), hb⟩
theorem defR_yes {p : Prop} {w w' : World} (h : p) (hb : Below w.heap.size w w') : DefR p w (.returned (.bool true)) w' := ⟨true, rfl, fun _ => h, hb⟩
set_option maxRecDepth 100000 in
set_option maxHeartbeats 8000000 in
theorem defined_any (vn vl vr vb : Value) (nd : List Nd) (lf : List Lf) (rs : List Rn) (bs : List Int) (v : Value) (l : List Gr) (w : World) (hm : StrV Nd.cells 2 w w.heap.size vn nd) (hl : StrV Lf.cells 8 w w.heap.size vl lf) (hr : StrV Rn.cells 7 w w.heap.size vr rs) (hb : RowV w w.heap.size vb bs) (hv : GrV w w.heap.size v l) :
    Calls Try.prog 17 #[.agg #[vn, vl, vr, vb], v] w (DefR (MapOK nd lf rs bs ∧ OkG l) w) := by
  have HM := Lib.hid hm
  have HL := Lib.hid hl
  have HR := Lib.hid hr
  have HS := Lib.hid hb
  have HV := Lib.hid hv
  obtain ⟨r, hr2⟩ : ∃ r : Int, ((rightG l : Nat) : Int) = r := ⟨_, rfl⟩
  have HOk : Hid (r = 0 → OkG l) := fun h => right_okG.1 (by omega)
  have HC : Hid (∀ W, GrV W W.heap.size v l → Calls Try.prog 13 #[v] W fun e w' => e = .returned (.int .i64 r) ∧ Below W.heap.size W w') := fun W h => by
    rw [← hr2]
    exact rgright_any v l W h
  generalize OkG l = OK at *
  clear hm hl hr hb hv hr2
  go_enter Try.func17, Try.ntmps17
  go_wp2_with fail
  have HBwb := (Blk.new w 32 #[vn, vl, vr, vb])
  have HLwb := (below_new w (.cells #[vn, vl, vr, vb] 32))
  have hswb : (w.alloc (.cells #[vn, vl, vr, vb] 32)).heap.size = w.heap.size + 1 := by simp
  generalize w.alloc (.cells #[vn, vl, vr, vb] 32) = wb at HBwb HLwb hswb ⊢
  replace HBwb := Lib.hid HBwb
  replace HLwb := Lib.hid HLwb
  have hlwb : w.heap.size < wb.heap.size := by omega
  replace hswb := Lib.hid hswb
  have HWb := Lib.hid (HLwb.out)
  have hl0 : w.heap.size ≤ wb.heap.size := HWb.out.size
  have HBb : Hid (Below wb.heap.size wb wb) := hide (Below.refl _ _)
  have hszb : wb.heap.size ≤ wb.heap.size := Nat.le_refl _
  have HX0b : Hid (Blk wb w.heap.size 32 #[vn, vl, vr, vb]) := hide HBwb.out
  have hxx0 : w.heap.size < wb.heap.size := HX0b.out.lt
  clear HBwb HLwb hswb hlwb
  have HMb := Lib.hid (HM.out.now HWb.out)
  have HLb := Lib.hid (HL.out.now HWb.out)
  have HRb := Lib.hid (HR.out.now HWb.out)
  have HSb := Lib.hid (HS.out.now HWb.out)
  have HVb := Lib.hid (HV.out.now HWb.out)
  go_wp2_with
    (first
     | (refine wpList_load_g 32 (.tmp 2) rfl rfl w.heap.size rfl _ _ HX0b.out _ Try.underlying32 rfl (by kernel_rfl) ?_))
  with_reducible refine (tright_any vn vl vr vb nd lf rs bs _ HMb.out HLb.out HRb.out HSb.out).mono ?_
  rintro e w3 ⟨r3, rfl, hr3, hb3⟩
  have HP3 := Lib.hid hr3
  clear hr3
  have HB3 := Lib.hid (HBb.out.trans (hb3.mono hszb))
  have HW3 := Lib.hid (HWb.out.trans (hb3.mono HWb.out.size))
  have hsz3 : wb.heap.size ≤ w3.heap.size := Nat.le_trans hszb hb3.size
  have HX03 := Lib.hid (HX0b.out.below hb3 (Nat.lt_of_lt_of_le hxx0 hszb))
  have HM3 := Lib.hid (HMb.out.now hb3)
  have HL3 := Lib.hid (HLb.out.now hb3)
  have HR3 := Lib.hid (HRb.out.now hb3)
  have HS3 := Lib.hid (HSb.out.now hb3)
  have HV3 := Lib.hid (HVb.out.now hb3)
  clear hb3
  generalize MapOK nd lf rs bs = MK at *
  by_cases z3 : r3 = 0
  rotate_left
  · have d0 : (r3 == 0) = false := beq_eq_false_iff_ne.2 z3
    go_wp2_with fail
    try go_ret
    exact defR_no HW3.out
  have HP := Lib.hid (HP3.out z3)
  clear HP3
  subst z3
  go_wp2_with fail
  with_reducible refine (HC.out _ HV3.out).mono ?_
  rintro e w4 ⟨rfl, hb4⟩
  have HB4 := Lib.hid (HB3.out.trans (hb4.mono hsz3))
  have HW4 := Lib.hid (HW3.out.trans (hb4.mono HW3.out.size))
  have hsz4 : wb.heap.size ≤ w4.heap.size := Nat.le_trans hsz3 hb4.size
  have HX04 := Lib.hid (HX03.out.below hb4 (Nat.lt_of_lt_of_le hxx0 hsz3))
  have HM4 := Lib.hid (HM3.out.now hb4)
  have HL4 := Lib.hid (HL3.out.now hb4)
  have HR4 := Lib.hid (HR3.out.now hb4)
  have HS4 := Lib.hid (HS3.out.now hb4)
  have HV4 := Lib.hid (HV3.out.now hb4)
  clear hb4
  by_cases zr : r = 0
  · have HK := Lib.hid (HOk.out zr)
    clear HOk HC
    subst zr
    go_wp2_with fail
    try go_ret
    exact defR_yes ⟨HP.out, HK.out⟩ HW4.out
  · have d0 : (r == 0) = false := beq_eq_false_iff_ne.2 zr
    go_wp2_with fail
    try go_ret
    exact defR_no HW4.out
end Go.Proofs.Ytegijfmdjaehjaa
