/-
  GroomerWay answers true for every input. Its conditions: none. (One heavy walk.)
-/
import Derived.Test.YtegijfmdjaehjaaRows
import Derived.Test.YtegijfmdjaehjaaGruK
namespace Go.Proofs.Ytegijfmdjaehjaa
open Go.ChangeShapes Go.WideShapes Go.ChangeAt Go.RowKit

set_option maxRecDepth 100000 in
set_option maxHeartbeats 40000000 in
theorem groomerWay_any (w : World) (vn vl vr vb : Value) (nd : List Nd) (lf : List Lf) (rs : List Rn) (bs : List Int) (hnd : StrV Nd.cells 2 w w.heap.size vn nd) (hlf : StrV Lf.cells 8 w w.heap.size vl lf) (hrs : StrV Rn.cells 7 w w.heap.size vr rs) (hbs : RowV w w.heap.size vb bs) (a : Int) (b : Int) (c : Int) :
    Calls Try.prog 9 #[.agg #[vn, vl, vr, vb], .int .i64 a, .int .i64 b, .int .i64 c] w fun e w' => e = .returned (.bool true) ∧ Below w.heap.size w w' := by
  have HM := Lib.hid hnd
  have HL := Lib.hid hlf
  have HR := Lib.hid hrs
  have HS := Lib.hid hbs
  clear hnd hlf hrs hbs
  go_enter Try.func9, Try.ntmps9
  go_wp2_with fail
  have HBwb := (Blk.new w 32 #[vn, vl, vr, vb])
  have HLwb := (below_new w (.cells #[vn, vl, vr, vb] 32))
  have hswb : (w.alloc (.cells #[vn, vl, vr, vb] 32)).heap.size = w.heap.size + 1 := by simp
  generalize w.alloc (.cells #[vn, vl, vr, vb] 32) = wb at HBwb HLwb hswb ⊢
  replace HBwb := Lib.hid HBwb
  replace HLwb := Lib.hid HLwb
  have hlwb : w.heap.size < wb.heap.size := by omega
  replace hswb := Lib.hid hswb
  have HWb := Lib.hid (HLwb.out)
  have hl0 : w.heap.size ≤ wb.heap.size := HWb.out.size
  have HBb : Hid (Below wb.heap.size wb wb) := hide (Below.refl _ _)
  have hszb : wb.heap.size ≤ wb.heap.size := Nat.le_refl _
  have HX0b : Hid (Blk wb w.heap.size 32 #[vn, vl, vr, vb]) := hide HBwb.out
  have hxx0 : w.heap.size < wb.heap.size := HX0b.out.lt
  clear HBwb HLwb hswb hlwb
  have HMb := Lib.hid (HM.out.now HWb.out)
  have HLb := Lib.hid (HL.out.now HWb.out)
  have HRb := Lib.hid (HR.out.now HWb.out)
  have HSb := Lib.hid (HS.out.now HWb.out)
  with_reducible refine (alive_any _).mono ?_
  rintro e w1 ⟨rfl, hb1⟩
  have HB1 := Lib.hid (HBb.out.trans (hb1.mono hszb))
  have HW1 := Lib.hid (HWb.out.trans (hb1.mono HWb.out.size))
  have hsz1 : wb.heap.size ≤ w1.heap.size := Nat.le_trans hszb hb1.size
  have HX01 := Lib.hid (HX0b.out.below hb1 (Nat.lt_of_lt_of_le hxx0 hszb))
  have HM1 := Lib.hid (HMb.out.now hb1)
  have HL1 := Lib.hid (HLb.out.now hb1)
  have HR1 := Lib.hid (HRb.out.now hb1)
  have HS1 := Lib.hid (HSb.out.now hb1)
  clear hb1
  go_wp2_with
    (first
     | (refine wpList_load_g 32 (.tmp 4) rfl rfl w.heap.size rfl _ _ HX01.out _ Try.underlying32 rfl (by kernel_rfl) ?_))
  with_reducible refine (tright_any vn vl vr vb nd lf rs bs _ HM1.out HL1.out HR1.out HS1.out).mono ?_
  rintro e w2 ⟨r2, rfl, hr2, hb2⟩
  have HP := Lib.hid hr2
  clear hr2
  have HB2 := Lib.hid (HB1.out.trans (hb2.mono hsz1))
  have HW2 := Lib.hid (HW1.out.trans (hb2.mono HW1.out.size))
  have hsz2 : wb.heap.size ≤ w2.heap.size := Nat.le_trans hsz1 hb2.size
  have HX02 := Lib.hid (HX01.out.below hb2 (Nat.lt_of_lt_of_le hxx0 hsz1))
  have HM2 := Lib.hid (HM1.out.now hb2)
  have HL2 := Lib.hid (HL1.out.now hb2)
  have HR2 := Lib.hid (HR1.out.now hb2)
  have HS2 := Lib.hid (HS1.out.now hb2)
  clear hb2
  by_cases z2 : r2 = 0
  rotate_left
  · have d0 : (r2 != 0) = true := bne_iff_ne.2 z2
    go_wp2_with fail
    try go_ret
    exact ⟨rfl, HW2.out⟩
  have HMk := Lib.hid (HP.out z2)
  clear HP
  subst z2
  obtain ⟨o, ho⟩ : ∃ o, wayO nd lf rs a b = o := ⟨_, rfl⟩
  obtain ⟨o2, ho2⟩ : ∃ o, wayO nd lf rs b c = o := ⟨_, rfl⟩
  obtain ⟨o3, ho3⟩ : ∃ o, wayO nd lf rs a c = o := ⟨_, rfl⟩
  have ho' : wayO nd lf rs b a = o := (way_back HMk.out b a).trans ho
  have HBd : Hid (∀ u v n, wayO nd lf rs u v = some n → 0 ≤ n ∧ n ≤ 1000000000000) := fun u v n h => wayO_bnd HMk.out.wy h
  have HTr : Hid (∀ x z, o = some x → o2 = some z → ∃ y, o3 = some y ∧ y ≤ x + z) := fun x z h1 h2 => by rw [← ho3]; exact way_tri HMk.out (ho.trans h1) (ho2.trans h2)
  have HD1 : Hid (∀ x, o = some x → 0 ≤ x ∧ x ≤ 1000000000000) := fun x h => HBd.out _ _ _ (ho.trans h)
  have HD2 : Hid (∀ x, o2 = some x → 0 ≤ x ∧ x ≤ 1000000000000) := fun x h => HBd.out _ _ _ (ho2.trans h)
  have HC1 : Hid (∀ W : World, StrV Nd.cells 2 W W.heap.size vn nd → StrV Lf.cells 8 W W.heap.size vl lf → StrV Rn.cells 7 W W.heap.size vr rs → Calls Try.prog 15 #[.agg #[vn, vl, vr, vb], .int .i64 a, .int .i64 b] W (WayR o W)) := fun W h1 h2 h3 => by rw [← ho]; exact way_any vn vl vr vb nd lf rs a b W h1 h2 h3 HMk.out.wy
  have HC2 : Hid (∀ W : World, StrV Nd.cells 2 W W.heap.size vn nd → StrV Lf.cells 8 W W.heap.size vl lf → StrV Rn.cells 7 W W.heap.size vr rs → Calls Try.prog 15 #[.agg #[vn, vl, vr, vb], .int .i64 b, .int .i64 a] W (WayR o W)) := fun W h1 h2 h3 => by rw [← ho']; exact way_any vn vl vr vb nd lf rs b a W h1 h2 h3 HMk.out.wy
  have HC3 : Hid (∀ W : World, StrV Nd.cells 2 W W.heap.size vn nd → StrV Lf.cells 8 W W.heap.size vl lf → StrV Rn.cells 7 W W.heap.size vr rs → Calls Try.prog 15 #[.agg #[vn, vl, vr, vb], .int .i64 b, .int .i64 c] W (WayR o2 W)) := fun W h1 h2 h3 => by rw [← ho2]; exact way_any vn vl vr vb nd lf rs b c W h1 h2 h3 HMk.out.wy
  have HC4 : Hid (∀ W : World, StrV Nd.cells 2 W W.heap.size vn nd → StrV Lf.cells 8 W W.heap.size vl lf → StrV Rn.cells 7 W W.heap.size vr rs → Calls Try.prog 15 #[.agg #[vn, vl, vr, vb], .int .i64 a, .int .i64 c] W (WayR o3 W)) := fun W h1 h2 h3 => by rw [← ho3]; exact way_any vn vl vr vb nd lf rs a c W h1 h2 h3 HMk.out.wy
  clear ho ho2 ho3 ho' HBd
  go_wp2_with
    (first
     | (refine wpList_load_g 32 (.tmp 4) rfl rfl w.heap.size rfl _ _ HX02.out _ Try.underlying32 rfl (by kernel_rfl) ?_))
  with_reducible refine (HC1.out _ HM2.out HL2.out HR2.out).mono ?_
  rintro e w3 ⟨rfl, hb3⟩
  have HB3 := Lib.hid (HB2.out.trans (hb3.mono hsz2))
  have HW3 := Lib.hid (HW2.out.trans (hb3.mono HW2.out.size))
  have hsz3 : wb.heap.size ≤ w3.heap.size := Nat.le_trans hsz2 hb3.size
  have HX03 := Lib.hid (HX02.out.below hb3 (Nat.lt_of_lt_of_le hxx0 hsz2))
  have HM3 := Lib.hid (HM2.out.now hb3)
  have HL3 := Lib.hid (HL2.out.now hb3)
  have HR3 := Lib.hid (HR2.out.now hb3)
  have HS3 := Lib.hid (HS2.out.now hb3)
  clear hb3
  go_wp2_with
    (first
     | (refine wpList_load_g 32 (.tmp 4) rfl rfl w.heap.size rfl _ _ HX03.out _ Try.underlying32 rfl (by kernel_rfl) ?_))
  with_reducible refine (HC2.out _ HM3.out HL3.out HR3.out).mono ?_
  rintro e w4 ⟨rfl, hb4⟩
  have HB4 := Lib.hid (HB3.out.trans (hb4.mono hsz3))
  have HW4 := Lib.hid (HW3.out.trans (hb4.mono HW3.out.size))
  have hsz4 : wb.heap.size ≤ w4.heap.size := Nat.le_trans hsz3 hb4.size
  have HX04 := Lib.hid (HX03.out.below hb4 (Nat.lt_of_lt_of_le hxx0 hsz3))
  have HM4 := Lib.hid (HM3.out.now hb4)
  have HL4 := Lib.hid (HL3.out.now hb4)
  have HR4 := Lib.hid (HR3.out.now hb4)
  have HS4 := Lib.hid (HS3.out.now hb4)
  clear hb4
  obtain ⟨x, hx⟩ : ∃ x, o.getD 0 = x := ⟨_, rfl⟩
  obtain ⟨b0, hb0⟩ : ∃ b, o.isSome = b := ⟨_, rfl⟩
  rw [hx, hb0]
  have HX : Hid (b0 = true → o = some x) := fun h => by rw [h] at hb0; obtain ⟨y, rfl⟩ := Option.isSome_iff_exists.1 hb0; rw [← hx]; rfl
  clear hx hb0
  cases b0 with
  | false =>
    go_wp2_with
      (first
       | (refine wpList_load_g 32 (.tmp 4) rfl rfl w.heap.size rfl _ _ HX04.out _ Try.underlying32 rfl (by kernel_rfl) ?_))
    with_reducible refine (HC3.out _ HM4.out HL4.out HR4.out).mono ?_
    rintro e w5 ⟨rfl, hb5⟩
    have HB5 := Lib.hid (HB4.out.trans (hb5.mono hsz4))
    have HW5 := Lib.hid (HW4.out.trans (hb5.mono HW4.out.size))
    have hsz5 : wb.heap.size ≤ w5.heap.size := Nat.le_trans hsz4 hb5.size
    have HX05 := Lib.hid (HX04.out.below hb5 (Nat.lt_of_lt_of_le hxx0 hsz4))
    have HM5 := Lib.hid (HM4.out.now hb5)
    have HL5 := Lib.hid (HL4.out.now hb5)
    have HR5 := Lib.hid (HR4.out.now hb5)
    have HS5 := Lib.hid (HS4.out.now hb5)
    clear hb5
    obtain ⟨z, hz⟩ : ∃ x, o2.getD 0 = x := ⟨_, rfl⟩
    obtain ⟨b2, hb2⟩ : ∃ b, o2.isSome = b := ⟨_, rfl⟩
    rw [hz, hb2]
    have HZ : Hid (b2 = true → o2 = some z) := fun h => by rw [h] at hb2; obtain ⟨y, rfl⟩ := Option.isSome_iff_exists.1 hb2; rw [← hz]; rfl
    clear hz hb2
    go_wp2_with
      (first
       | (refine wpList_load_g 32 (.tmp 4) rfl rfl w.heap.size rfl _ _ HX05.out _ Try.underlying32 rfl (by kernel_rfl) ?_))
    with_reducible refine (HC4.out _ HM5.out HL5.out HR5.out).mono ?_
    rintro e w6 ⟨rfl, hb6⟩
    have HB6 := Lib.hid (HB5.out.trans (hb6.mono hsz5))
    have HW6 := Lib.hid (HW5.out.trans (hb6.mono HW5.out.size))
    have hsz6 : wb.heap.size ≤ w6.heap.size := Nat.le_trans hsz5 hb6.size
    have HX06 := Lib.hid (HX05.out.below hb6 (Nat.lt_of_lt_of_le hxx0 hsz5))
    have HM6 := Lib.hid (HM5.out.now hb6)
    have HL6 := Lib.hid (HL5.out.now hb6)
    have HR6 := Lib.hid (HR5.out.now hb6)
    have HS6 := Lib.hid (HS5.out.now hb6)
    clear hb6
    obtain ⟨y, hy⟩ : ∃ x, o3.getD 0 = x := ⟨_, rfl⟩
    obtain ⟨b3, hb3⟩ : ∃ b, o3.isSome = b := ⟨_, rfl⟩
    rw [hy, hb3]
    have HY : Hid (∀ q, o3 = some q → b3 = true ∧ y = q) := fun q h => by rw [h] at hy hb3; exact ⟨hb3.symm, hy.symm⟩
    clear hy hb3
    go_wp2_with fail
    try go_ret
    exact ⟨rfl, HW6.out⟩
  | true =>
    go_wp2_with
      (first
       | (refine wpList_load_g 32 (.tmp 4) rfl rfl w.heap.size rfl _ _ HX04.out _ Try.underlying32 rfl (by kernel_rfl) ?_))
    with_reducible refine (HC3.out _ HM4.out HL4.out HR4.out).mono ?_
    rintro e w5 ⟨rfl, hb5⟩
    have HB5 := Lib.hid (HB4.out.trans (hb5.mono hsz4))
    have HW5 := Lib.hid (HW4.out.trans (hb5.mono HW4.out.size))
    have hsz5 : wb.heap.size ≤ w5.heap.size := Nat.le_trans hsz4 hb5.size
    have HX05 := Lib.hid (HX04.out.below hb5 (Nat.lt_of_lt_of_le hxx0 hsz4))
    have HM5 := Lib.hid (HM4.out.now hb5)
    have HL5 := Lib.hid (HL4.out.now hb5)
    have HR5 := Lib.hid (HR4.out.now hb5)
    have HS5 := Lib.hid (HS4.out.now hb5)
    clear hb5
    obtain ⟨z, hz⟩ : ∃ x, o2.getD 0 = x := ⟨_, rfl⟩
    obtain ⟨b2, hb2⟩ : ∃ b, o2.isSome = b := ⟨_, rfl⟩
    rw [hz, hb2]
    have HZ : Hid (b2 = true → o2 = some z) := fun h => by rw [h] at hb2; obtain ⟨y, rfl⟩ := Option.isSome_iff_exists.1 hb2; rw [← hz]; rfl
    clear hz hb2
    go_wp2_with
      (first
       | (refine wpList_load_g 32 (.tmp 4) rfl rfl w.heap.size rfl _ _ HX05.out _ Try.underlying32 rfl (by kernel_rfl) ?_))
    with_reducible refine (HC4.out _ HM5.out HL5.out HR5.out).mono ?_
    rintro e w6 ⟨rfl, hb6⟩
    have HB6 := Lib.hid (HB5.out.trans (hb6.mono hsz5))
    have HW6 := Lib.hid (HW5.out.trans (hb6.mono HW5.out.size))
    have hsz6 : wb.heap.size ≤ w6.heap.size := Nat.le_trans hsz5 hb6.size
    have HX06 := Lib.hid (HX05.out.below hb6 (Nat.lt_of_lt_of_le hxx0 hsz5))
    have HM6 := Lib.hid (HM5.out.now hb6)
    have HL6 := Lib.hid (HL5.out.now hb6)
    have HR6 := Lib.hid (HR5.out.now hb6)
    have HS6 := Lib.hid (HS5.out.now hb6)
    clear hb6
    obtain ⟨y, hy⟩ : ∃ x, o3.getD 0 = x := ⟨_, rfl⟩
    obtain ⟨b3, hb3⟩ : ∃ b, o3.isSome = b := ⟨_, rfl⟩
    rw [hy, hb3]
    have HY : Hid (∀ q, o3 = some q → b3 = true ∧ y = q) := fun q h => by rw [h] at hy hb3; exact ⟨hb3.symm, hy.symm⟩
    clear hy hb3
    cases b2 with
    | false =>
      go_wp2_with fail
      try go_ret
      exact ⟨rfl, HW6.out⟩
    | true =>
      obtain ⟨q, hq1, hq2⟩ := HTr.out x z (HX.out trivial) (HZ.out rfl)
      obtain ⟨hy1, hy2⟩ := HY.out q hq1
      have hxb := HD1.out x (HX.out trivial)
      have hzb := HD2.out z (HZ.out rfl)
      subst hy1 hy2
      have dl : decide (y ≤ x + z) = true := decide_eq_true hq2
      clear hq1
      go_wp2_with fail
      try go_ret
      exact ⟨rfl, HW6.out⟩


theorem own_groomerWay : ownKnob Try.prog.godebug = none := by kernel_rfl
theorem laidOut_groomerWay : laidOutB Try.prog = true := by kernel_rfl
set_option maxRecDepth 100000 in
theorem groomerWay_lifted (os : Os) (started : os.Started) (H : Type) (enc : TypeId × Value → H) :
    ReturnsInHanded {} Try.checked os 9 .any (Rows.groomerWaySpec.pre6 enc Try.prog Try.f9 Rows.groomerWayRow.domain false) (Rows.groomerWaySpec.post enc Try.prog Try.f9 false true false false) := by
  refine returnsInHanded_of_change (C := Try.checked) own_groomerWay started (by kernel_rfl) Try.func9
    (ChangeSpec.witness6 (enc := enc) (C := Try.checked) false ⟨#[], #[.agg #[.slice none 0 0, .slice none 0 0, .slice none 0 0, .slice none 0 0], .int .i64 0, .int .i64 0, .int .i64 0], []⟩ 8 (by kernel_rfl) (by kernel_rfl) (by kernel_rfl) (by kernel_rfl)) ?_
  intro W base args ds gs before hval0 hW hcnd _
  have hval : ∀ (j : Nat) t v, Try.f9.params[j]? = some t → args[j]? = some v → Value.okWide Try.prog W .any base t v := hval0
  have hW' := hW
  obtain ⟨p, q, hA0, hV, rfl, hfz, hnd⟩ := hW
  have hA : DataW.TrodAll enc Try.prog W 0 (fun _ => true) true Try.f9.params.toList args.toList ds p := hA0
  rw [Try.params9] at hA hval
  obtain ⟨v0, vs0, d0, ds0, p0, q0, hargs, rfl, rfl, h0, r0⟩ := trodAll_cons hA
  obtain ⟨v1, vs1, d1, ds1, p1, q1, rfl, rfl, rfl, h1, r1⟩ := trodAll_cons r0
  obtain ⟨v2, vs2, d2, ds2, p2, q2, rfl, rfl, rfl, h2, r2⟩ := trodAll_cons r1
  obtain ⟨v3, vs3, d3, ds3, p3, q3, rfl, rfl, rfl, h3, r3⟩ := trodAll_cons r2
  obtain ⟨rfl, rfl, rfl⟩ := trodAll_nil r3
  obtain rfl : args = #[v0, v1, v2, v3] := by cases args; simp_all
  obtain ⟨rfl, rfl⟩ := trodVars_none hV
  obtain ⟨vn, vl, vr, vb, nd, lf, rs, bs, rfl, hnd, hlf, hrs, hbs⟩ := open_map (hval 0 32 v0 rfl rfl) h0
  obtain ⟨a, rfl, _, _⟩ := open_i64 Try.underlying3 (hval 1 3 v1 rfl rfl) h1
  obtain ⟨b, rfl, _, _⟩ := open_i64 Try.underlying3 (hval 2 3 v2 rfl rfl) h2
  obtain ⟨c, rfl, _, _⟩ := open_i64 Try.underlying3 (hval 3 3 v3 rfl rfl) h3
  refine (groomerWay_any W vn vl vr vb nd lf rs bs hnd hlf hrs hbs a b c).mono fun e W' ⟨he, hb⟩ => ?_
  subst he
  exact ⟨_, rfl, law_post laidOut_groomerWay (by kernel_rfl) rfl rfl Try.underlying4 hW' rfl hb⟩

theorem groomerWay_holds : Rows.GroomerWaySaid :=
  OpenClaim.holds_of_wide 9 Try.f9 rfl rfl rfl rfl rfl rfl rfl ⟨rfl, rfl, rfl, rfl, rfl⟩ rfl rfl rfl rfl rfl (by kernel_rfl) Try.func9 (by kernel_rfl)
    (of_decide_eq_true (by kernel_rfl)) (by unfold Func.isWrapper; rw [if_neg (by decide +kernel)]; exact ⟨rfl, rfl⟩)
    (fun os started H enc _ => groomerWay_lifted os started H enc)
#print axioms groomerWay_holds

end Go.Proofs.Ytegijfmdjaehjaa
