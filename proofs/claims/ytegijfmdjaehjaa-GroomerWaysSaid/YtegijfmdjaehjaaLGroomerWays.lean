/-
  GroomerWays answers true for every input. Its conditions: none. (One heavy walk.)
-/
import Derived.Test.YtegijfmdjaehjaaRows
import Derived.Test.YtegijfmdjaehjaaGruK
namespace Go.Proofs.Ytegijfmdjaehjaa
open Go.ChangeShapes Go.WideShapes Go.ChangeAt Go.RowKit

set_option maxRecDepth 100000 in
set_option maxHeartbeats 40000000 in
theorem groomerWays_any (w : World) (vn vl vr vb : Value) (nd : List Nd) (lf : List Lf) (rs : List Rn) (bs : List Int) (hnd : StrV Nd.cells 2 w w.heap.size vn nd) (hlf : StrV Lf.cells 8 w w.heap.size vl lf) (hrs : StrV Rn.cells 7 w w.heap.size vr rs) (hbs : RowV w w.heap.size vb bs) (u : Int) (v : Int) :
    Calls Try.prog 4 #[.agg #[vn, vl, vr, vb], .int .i64 u, .int .i64 v] w fun e w' => e = .returned (.bool true) ∧ Below w.heap.size w w' := by
  have HM := Lib.hid hnd
  have HL := Lib.hid hlf
  have HR := Lib.hid hrs
  have HS := Lib.hid hbs
  clear hnd hlf hrs hbs
  go_enter Try.func4, Try.ntmps4
  go_wp2_with fail
  have HBwb := (Blk.new w 32 #[vn, vl, vr, vb])
  have HLwb := (below_new w (.cells #[vn, vl, vr, vb] 32))
  have hswb : (w.alloc (.cells #[vn, vl, vr, vb] 32)).heap.size = w.heap.size + 1 := by simp
  generalize w.alloc (.cells #[vn, vl, vr, vb] 32) = wb at HBwb HLwb hswb ⊢
  replace HBwb := Lib.hid HBwb
  replace HLwb := Lib.hid HLwb
  have hlwb : w.heap.size < wb.heap.size := by omega
  replace hswb := Lib.hid hswb
  have HWb := Lib.hid (HLwb.out)
  have hl0 : w.heap.size ≤ wb.heap.size := HWb.out.size
  have HBb : Hid (Below wb.heap.size wb wb) := hide (Below.refl _ _)
  have hszb : wb.heap.size ≤ wb.heap.size := Nat.le_refl _
  have HX0b : Hid (Blk wb w.heap.size 32 #[vn, vl, vr, vb]) := hide HBwb.out
  have hxx0 : w.heap.size < wb.heap.size := HX0b.out.lt
  clear HBwb HLwb hswb hlwb
  have HMb := Lib.hid (HM.out.now HWb.out)
  have HLb := Lib.hid (HL.out.now HWb.out)
  have HRb := Lib.hid (HR.out.now HWb.out)
  have HSb := Lib.hid (HS.out.now HWb.out)
  with_reducible refine (alive_any _).mono ?_
  rintro e w1 ⟨rfl, hb1⟩
  have HB1 := Lib.hid (HBb.out.trans (hb1.mono hszb))
  have HW1 := Lib.hid (HWb.out.trans (hb1.mono HWb.out.size))
  have hsz1 : wb.heap.size ≤ w1.heap.size := Nat.le_trans hszb hb1.size
  have HX01 := Lib.hid (HX0b.out.below hb1 (Nat.lt_of_lt_of_le hxx0 hszb))
  have HM1 := Lib.hid (HMb.out.now hb1)
  have HL1 := Lib.hid (HLb.out.now hb1)
  have HR1 := Lib.hid (HRb.out.now hb1)
  have HS1 := Lib.hid (HSb.out.now hb1)
  clear hb1
  go_wp2_with
    (first
     | (refine wpList_load_g 32 (.tmp 3) rfl rfl w.heap.size rfl _ _ HX01.out _ Try.underlying32 rfl (by kernel_rfl) ?_))
  with_reducible refine (tright_any vn vl vr vb nd lf rs bs _ HM1.out HL1.out HR1.out HS1.out).mono ?_
  rintro e w2 ⟨r2, rfl, hr2, hb2⟩
  have HP := Lib.hid hr2
  clear hr2
  have HB2 := Lib.hid (HB1.out.trans (hb2.mono hsz1))
  have HW2 := Lib.hid (HW1.out.trans (hb2.mono HW1.out.size))
  have hsz2 : wb.heap.size ≤ w2.heap.size := Nat.le_trans hsz1 hb2.size
  have HX02 := Lib.hid (HX01.out.below hb2 (Nat.lt_of_lt_of_le hxx0 hsz1))
  have HM2 := Lib.hid (HM1.out.now hb2)
  have HL2 := Lib.hid (HL1.out.now hb2)
  have HR2 := Lib.hid (HR1.out.now hb2)
  have HS2 := Lib.hid (HS1.out.now hb2)
  clear hb2
  by_cases z2 : r2 = 0
  rotate_left
  · have d0 : (r2 != 0) = true := bne_iff_ne.2 z2
    go_wp2_with fail
    try go_ret
    exact ⟨rfl, HW2.out⟩
  have HMk := Lib.hid (HP.out z2)
  clear HP
  subst z2
  go_wp2_with
    (first
     | (refine wpList_load_g 32 (.tmp 3) rfl rfl w.heap.size rfl _ _ HX02.out _ Try.underlying32 rfl (by kernel_rfl) ?_))
  obtain ⟨o, ho⟩ : ∃ o, wayO nd lf rs u v = o := ⟨_, rfl⟩
  have HC1 : Hid (Calls Try.prog 15 #[.agg #[vn, vl, vr, vb], .int .i64 u, .int .i64 v] w2 (WayR o w2)) := hide (by rw [← ho]; exact way_any vn vl vr vb nd lf rs u v w2 HM2.out HL2.out HR2.out HMk.out.wy)
  have HC2 : Hid (∀ W : World, StrV Nd.cells 2 W W.heap.size vn nd → StrV Lf.cells 8 W W.heap.size vl lf → StrV Rn.cells 7 W W.heap.size vr rs → Calls Try.prog 16 #[.agg #[vn, vl, vr, vb], .int .i64 u, .int .i64 v] W (WayR o W)) := fun W h1 h2 h3 => by rw [← ho]; exact rway_any vn vl vr vb nd lf rs u v W h1 h2 h3 HMk.out.rw
  clear ho
  with_reducible refine (HC1.out).mono ?_
  rintro e w3 ⟨rfl, hb3⟩
  have HB3 := Lib.hid (HB2.out.trans (hb3.mono hsz2))
  have HW3 := Lib.hid (HW2.out.trans (hb3.mono HW2.out.size))
  have hsz3 : wb.heap.size ≤ w3.heap.size := Nat.le_trans hsz2 hb3.size
  have HX03 := Lib.hid (HX02.out.below hb3 (Nat.lt_of_lt_of_le hxx0 hsz2))
  have HM3 := Lib.hid (HM2.out.now hb3)
  have HL3 := Lib.hid (HL2.out.now hb3)
  have HR3 := Lib.hid (HR2.out.now hb3)
  have HS3 := Lib.hid (HS2.out.now hb3)
  clear hb3
  go_wp2_with
    (first
     | (refine wpList_load_g 32 (.tmp 3) rfl rfl w.heap.size rfl _ _ HX03.out _ Try.underlying32 rfl (by kernel_rfl) ?_))
  with_reducible refine (HC2.out _ HM3.out HL3.out HR3.out).mono ?_
  rintro e w4 ⟨rfl, hb4⟩
  have HB4 := Lib.hid (HB3.out.trans (hb4.mono hsz3))
  have HW4 := Lib.hid (HW3.out.trans (hb4.mono HW3.out.size))
  have hsz4 : wb.heap.size ≤ w4.heap.size := Nat.le_trans hsz3 hb4.size
  have HX04 := Lib.hid (HX03.out.below hb4 (Nat.lt_of_lt_of_le hxx0 hsz3))
  have HM4 := Lib.hid (HM3.out.now hb4)
  have HL4 := Lib.hid (HL3.out.now hb4)
  have HR4 := Lib.hid (HR3.out.now hb4)
  have HS4 := Lib.hid (HS3.out.now hb4)
  clear hb4
  obtain ⟨x, hx⟩ : ∃ x, o.getD 0 = x := ⟨_, rfl⟩
  obtain ⟨b, hb⟩ : ∃ b, o.isSome = b := ⟨_, rfl⟩
  rw [hx, hb]
  clear hx hb HC1 HC2
  cases b <;>
    (go_wp2_with fail
     try go_ret
     exact ⟨rfl, HW4.out⟩)


theorem own_groomerWays : ownKnob Try.prog.godebug = none := by kernel_rfl
theorem laidOut_groomerWays : laidOutB Try.prog = true := by kernel_rfl
set_option maxRecDepth 100000 in
theorem groomerWays_lifted (os : Os) (started : os.Started) (H : Type) (enc : TypeId × Value → H) :
    ReturnsInHanded {} Try.checked os 4 .any (Rows.groomerWaysSpec.pre6 enc Try.prog Try.f4 Rows.groomerWaysRow.domain false) (Rows.groomerWaysSpec.post enc Try.prog Try.f4 false true false false) := by
  refine returnsInHanded_of_change (C := Try.checked) own_groomerWays started (by kernel_rfl) Try.func4
    (ChangeSpec.witness6 (enc := enc) (C := Try.checked) false ⟨#[], #[.agg #[.slice none 0 0, .slice none 0 0, .slice none 0 0, .slice none 0 0], .int .i64 0, .int .i64 0], []⟩ 8 (by kernel_rfl) (by kernel_rfl) (by kernel_rfl) (by kernel_rfl)) ?_
  intro W base args ds gs before hval0 hW hcnd _
  have hval : ∀ (j : Nat) t v, Try.f4.params[j]? = some t → args[j]? = some v → Value.okWide Try.prog W .any base t v := hval0
  have hW' := hW
  obtain ⟨p, q, hA0, hV, rfl, hfz, hnd⟩ := hW
  have hA : DataW.TrodAll enc Try.prog W 0 (fun _ => true) true Try.f4.params.toList args.toList ds p := hA0
  rw [Try.params4] at hA hval
  obtain ⟨v0, vs0, d0, ds0, p0, q0, hargs, rfl, rfl, h0, r0⟩ := trodAll_cons hA
  obtain ⟨v1, vs1, d1, ds1, p1, q1, rfl, rfl, rfl, h1, r1⟩ := trodAll_cons r0
  obtain ⟨v2, vs2, d2, ds2, p2, q2, rfl, rfl, rfl, h2, r2⟩ := trodAll_cons r1
  obtain ⟨rfl, rfl, rfl⟩ := trodAll_nil r2
  obtain rfl : args = #[v0, v1, v2] := by cases args; simp_all
  obtain ⟨rfl, rfl⟩ := trodVars_none hV
  obtain ⟨vn, vl, vr, vb, nd, lf, rs, bs, rfl, hnd, hlf, hrs, hbs⟩ := open_map (hval 0 32 v0 rfl rfl) h0
  obtain ⟨u, rfl, _, _⟩ := open_i64 Try.underlying3 (hval 1 3 v1 rfl rfl) h1
  obtain ⟨v, rfl, _, _⟩ := open_i64 Try.underlying3 (hval 2 3 v2 rfl rfl) h2
  refine (groomerWays_any W vn vl vr vb nd lf rs bs hnd hlf hrs hbs u v).mono fun e W' ⟨he, hb⟩ => ?_
  subst he
  exact ⟨_, rfl, law_post laidOut_groomerWays (by kernel_rfl) rfl rfl Try.underlying4 hW' rfl hb⟩

theorem groomerWays_holds : Rows.GroomerWaysSaid :=
  OpenClaim.holds_of_wide 4 Try.f4 rfl rfl rfl rfl rfl rfl rfl ⟨rfl, rfl, rfl, rfl, rfl⟩ rfl rfl rfl rfl rfl (by kernel_rfl) Try.func4 (by kernel_rfl)
    (of_decide_eq_true (by kernel_rfl)) (by unfold Func.isWrapper; rw [if_neg (by decide +kernel)]; exact ⟨rfl, rfl⟩)
    (fun os started H enc _ => groomerWays_lifted os started H enc)
#print axioms groomerWays_holds

end Go.Proofs.Ytegijfmdjaehjaa
