/-
  GroomerTicks answers true for every input. Its conditions: none. (One heavy walk.)
-/
import Derived.Test.YtegijfmdjaehjaaRows
import Derived.Test.YtegijfmdjaehjaaGruK
namespace Go.Proofs.Ytegijfmdjaehjaa
open Go.ChangeShapes Go.WideShapes Go.ChangeAt Go.RowKit

set_option maxRecDepth 100000 in
set_option maxHeartbeats 40000000 in
theorem groomerTicks_any (w : World) (vn vl vr vb : Value) (nd : List Nd) (lf : List Lf) (rs : List Rn) (bs : List Int) (hnd : StrV Nd.cells 2 w w.heap.size vn nd) (hlf : StrV Lf.cells 8 w w.heap.size vl lf) (hrs : StrV Rn.cells 7 w w.heap.size vr rs) (hbs : RowV w w.heap.size vb bs) (v : Value) (l : List Gr) (hv : GrV w w.heap.size v l) (t : Int) (rg : Int) :
    Calls Try.prog 7 #[.agg #[vn, vl, vr, vb], v, .int .i64 t, .int .i64 rg] w fun e w' => e = .returned (.bool true) ∧ Below w.heap.size w w' := by
  have HM := Lib.hid hnd
  have HL := Lib.hid hlf
  have HR := Lib.hid hrs
  have HS := Lib.hid hbs
  obtain ⟨A, n, c, rfl, HN, hc1, hc2, hr⟩ := hv.nam
  have HV := Lib.hid hv
  clear hv hr hc1 hc2
  clear hnd hlf hrs hbs
  go_enter Try.func7, Try.ntmps7
  go_wp2_with fail
  have HBwb := (Blk.new w 32 #[vn, vl, vr, vb])
  have HLwb := (below_new w (.cells #[vn, vl, vr, vb] 32))
  have hswb : (w.alloc (.cells #[vn, vl, vr, vb] 32)).heap.size = w.heap.size + 1 := by simp
  generalize w.alloc (.cells #[vn, vl, vr, vb] 32) = wb at HBwb HLwb hswb ⊢
  replace HBwb := Lib.hid HBwb
  replace HLwb := Lib.hid HLwb
  have hlwb : w.heap.size < wb.heap.size := by omega
  replace hswb := Lib.hid hswb
  have HWb := Lib.hid (HLwb.out)
  have hl0 : w.heap.size ≤ wb.heap.size := HWb.out.size
  have HBb : Hid (Below wb.heap.size wb wb) := hide (Below.refl _ _)
  have hszb : wb.heap.size ≤ wb.heap.size := Nat.le_refl _
  have HX0b : Hid (Blk wb w.heap.size 32 #[vn, vl, vr, vb]) := hide HBwb.out
  have hxx0 : w.heap.size < wb.heap.size := HX0b.out.lt
  clear HBwb HLwb hswb hlwb
  have HMb := Lib.hid (HM.out.now HWb.out)
  have HLb := Lib.hid (HL.out.now HWb.out)
  have HRb := Lib.hid (HR.out.now HWb.out)
  have HSb := Lib.hid (HS.out.now HWb.out)
  have HVb := Lib.hid (HV.out.now HWb.out)
  with_reducible refine (alive_any _).mono ?_
  rintro e w1 ⟨rfl, hb1⟩
  have HB1 := Lib.hid (HBb.out.trans (hb1.mono hszb))
  have HW1 := Lib.hid (HWb.out.trans (hb1.mono HWb.out.size))
  have hsz1 : wb.heap.size ≤ w1.heap.size := Nat.le_trans hszb hb1.size
  have HX01 := Lib.hid (HX0b.out.below hb1 (Nat.lt_of_lt_of_le hxx0 hszb))
  have HM1 := Lib.hid (HMb.out.now hb1)
  have HL1 := Lib.hid (HLb.out.now hb1)
  have HR1 := Lib.hid (HRb.out.now hb1)
  have HS1 := Lib.hid (HSb.out.now hb1)
  have HV1 := Lib.hid (HVb.out.now hb1)
  clear hb1
  go_wp2_with
    (first
     | (refine wpList_load_g 32 (.tmp 4) rfl rfl w.heap.size rfl _ _ HX01.out _ Try.underlying32 rfl (by kernel_rfl) ?_))
  with_reducible refine (defined_any vn vl vr vb nd lf rs bs _ l _ HM1.out HL1.out HR1.out HS1.out HV1.out).mono ?_
  rintro e w2 ⟨db, rfl, hdb, hb2⟩
  have HD := Lib.hid hdb
  clear hdb
  have HB2 := Lib.hid (HB1.out.trans (hb2.mono hsz1))
  have HW2 := Lib.hid (HW1.out.trans (hb2.mono HW1.out.size))
  have hsz2 : wb.heap.size ≤ w2.heap.size := Nat.le_trans hsz1 hb2.size
  have HX02 := Lib.hid (HX01.out.below hb2 (Nat.lt_of_lt_of_le hxx0 hsz1))
  have HM2 := Lib.hid (HM1.out.now hb2)
  have HL2 := Lib.hid (HL1.out.now hb2)
  have HR2 := Lib.hid (HR1.out.now hb2)
  have HS2 := Lib.hid (HS1.out.now hb2)
  have HV2 := Lib.hid (HV1.out.now hb2)
  clear hb2
  cases db with
  | false =>
    go_wp2_with fail
    try go_ret
    exact ⟨rfl, HW2.out⟩
  | true =>
    have HMk := Lib.hid (HD.out rfl).1
    have HOk := Lib.hid (HD.out rfl).2
    clear HD
    obtain ⟨ls, hls⟩ : ∃ q, tickG rs t l = q := ⟨_, rfl⟩
    obtain ⟨ds, hds⟩ : ∃ q, doneG t l = q := ⟨_, rfl⟩
    obtain ⟨on, hon⟩ : ∃ b, onG l rg = b := ⟨_, rfl⟩
    have HC1 : Hid (∀ W : World, StrV Rn.cells 7 W W.heap.size vr rs → GrV W W.heap.size (.slice A n c) l → Calls Try.prog 23 #[.agg #[vn, vl, vr, vb], .slice A n c, .int .i64 t] W fun e w' => ∃ v' f', e = .returned (.tuple #[v', f']) ∧ GrV w' w'.heap.size v' ls ∧ RowV w' w'.heap.size f' ds ∧ Below W.heap.size W w') := fun W h3 h4 => by
      refine (gtick_any vn vl vr vb rs _ l t W h3 h4 HOk.out.len).mono ?_
      rintro e w' ⟨v', f', rfl, k1, k2, k3⟩
      rw [hls] at k1
      rw [hds] at k2
      exact ⟨v', f', rfl, k1.strV, own_open k2, k3⟩
    have HC2 : Hid (∀ W : World, StrV Rn.cells 7 W W.heap.size vr rs → GrV W W.heap.size (.slice A n c) l → Calls Try.prog 24 #[.agg #[vn, vl, vr, vb], .slice A n c, .int .i64 t] W fun e w' => ∃ v' f', e = .returned (.tuple #[v', f']) ∧ GrV w' w'.heap.size v' ls ∧ RowV w' w'.heap.size f' ds ∧ Below W.heap.size W w') := fun W h3 h4 => by
      refine (rgtick_any vn vl vr vb rs _ l t W h3 h4 HOk.out.len).mono ?_
      rintro e w' ⟨v', f', rfl, k1, k2, k3⟩
      rw [hls] at k1
      rw [hds] at k2
      exact ⟨v', f', rfl, k1.strV, own_open k2, k3⟩
    have HO1 : Hid (∀ W : World, GrV W W.heap.size (.slice A n c) l → Calls Try.prog 26 #[.slice A n c, .int .i64 rg] W fun e w' => e = .returned (.bool on) ∧ Below W.heap.size W w') := fun W h => by rw [← hon]; exact gon_any _ l rg W h
    have HO2 : Hid (∀ W : World, GrV W W.heap.size (.slice A n c) l → Calls Try.prog 27 #[.slice A n c, .int .i64 rg] W fun e w' => e = .returned (.bool on) ∧ W = w') := fun W h => by rw [← hon]; exact ron_any _ l rg W h
    clear hls hds hon
    go_wp2_with
      (first
       | (refine wpList_load_g 32 (.tmp 4) rfl rfl w.heap.size rfl _ _ HX02.out _ Try.underlying32 rfl (by kernel_rfl) ?_))
    with_reducible refine (HC1.out _ HR2.out HV2.out).mono ?_
    rintro e w3 ⟨v3, f3, rfl, hv3, hf3, hb3⟩
    have HB3 := Lib.hid (HB2.out.trans (hb3.mono hsz2))
    have HW3 := Lib.hid (HW2.out.trans (hb3.mono HW2.out.size))
    have hsz3 : wb.heap.size ≤ w3.heap.size := Nat.le_trans hsz2 hb3.size
    have HX03 := Lib.hid (HX02.out.below hb3 (Nat.lt_of_lt_of_le hxx0 hsz2))
    have HM3 := Lib.hid (HM2.out.now hb3)
    have HL3 := Lib.hid (HL2.out.now hb3)
    have HR3 := Lib.hid (HR2.out.now hb3)
    have HS3 := Lib.hid (HS2.out.now hb3)
    have HV3 := Lib.hid (HV2.out.now hb3)
    have HA3 := Lib.hid hv3
    have HF3 := Lib.hid hf3
    clear hb3 hv3 hf3
    go_wp2_with
      (first
       | (refine wpList_load_g 32 (.tmp 4) rfl rfl w.heap.size rfl _ _ HX03.out _ Try.underlying32 rfl (by kernel_rfl) ?_))
    with_reducible refine (HC2.out _ HR3.out HV3.out).mono ?_
    rintro e w4 ⟨v4, f4, rfl, hv4, hf4, hb4⟩
    have HB4 := Lib.hid (HB3.out.trans (hb4.mono hsz3))
    have HW4 := Lib.hid (HW3.out.trans (hb4.mono HW3.out.size))
    have hsz4 : wb.heap.size ≤ w4.heap.size := Nat.le_trans hsz3 hb4.size
    have HX04 := Lib.hid (HX03.out.below hb4 (Nat.lt_of_lt_of_le hxx0 hsz3))
    have HM4 := Lib.hid (HM3.out.now hb4)
    have HL4 := Lib.hid (HL3.out.now hb4)
    have HR4 := Lib.hid (HR3.out.now hb4)
    have HS4 := Lib.hid (HS3.out.now hb4)
    have HV4 := Lib.hid (HV3.out.now hb4)
    have HA4 := Lib.hid (HA3.out.now hb4)
    have HF4 := Lib.hid (HF3.out.now hb4)
    have HY4 := Lib.hid hv4
    have HZ4 := Lib.hid hf4
    clear hb4 hv4 hf4
    go_wp2_with fail
    with_reducible refine (rgsame_any _ _ ls w4 HA4.out HY4.out).mono ?_
    rintro e w5 ⟨rfl, hb5⟩
    have HB5 := Lib.hid (HB4.out.trans (hb5.mono hsz4))
    have HW5 := Lib.hid (HW4.out.trans (hb5.mono HW4.out.size))
    have hsz5 : wb.heap.size ≤ w5.heap.size := Nat.le_trans hsz4 hb5.size
    have HX05 := Lib.hid (HX04.out.below hb5 (Nat.lt_of_lt_of_le hxx0 hsz4))
    have HM5 := Lib.hid (HM4.out.now hb5)
    have HL5 := Lib.hid (HL4.out.now hb5)
    have HR5 := Lib.hid (HR4.out.now hb5)
    have HS5 := Lib.hid (HS4.out.now hb5)
    have HV5 := Lib.hid (HV4.out.now hb5)
    have HA5 := Lib.hid (HA4.out.now hb5)
    have HF5 := Lib.hid (HF4.out.now hb5)
    have HY5 := Lib.hid (HY4.out.now hb5)
    have HZ5 := Lib.hid (HZ4.out.now hb5)
    clear hb5
    go_wp2_with fail
    with_reducible refine (same_ints _ _ ds ds true w5 HF5.out HZ5.out (by simp)).mono ?_
    rintro e w6 ⟨rfl, hb6⟩
    have HB6 := Lib.hid (HB5.out.trans (hb6.mono hsz5))
    have HW6 := Lib.hid (HW5.out.trans (hb6.mono HW5.out.size))
    have hsz6 : wb.heap.size ≤ w6.heap.size := Nat.le_trans hsz5 hb6.size
    have HX06 := Lib.hid (HX05.out.below hb6 (Nat.lt_of_lt_of_le hxx0 hsz5))
    have HM6 := Lib.hid (HM5.out.now hb6)
    have HL6 := Lib.hid (HL5.out.now hb6)
    have HR6 := Lib.hid (HR5.out.now hb6)
    have HS6 := Lib.hid (HS5.out.now hb6)
    have HV6 := Lib.hid (HV5.out.now hb6)
    have HA6 := Lib.hid (HA5.out.now hb6)
    have HF6 := Lib.hid (HF5.out.now hb6)
    have HY6 := Lib.hid (HY5.out.now hb6)
    have HZ6 := Lib.hid (HZ5.out.now hb6)
    clear hb6
    go_wp2_with fail
    with_reducible refine (HO1.out _ HV6.out).mono ?_
    rintro e w7 ⟨rfl, hb7⟩
    have HB7 := Lib.hid (HB6.out.trans (hb7.mono hsz6))
    have HW7 := Lib.hid (HW6.out.trans (hb7.mono HW6.out.size))
    have hsz7 : wb.heap.size ≤ w7.heap.size := Nat.le_trans hsz6 hb7.size
    have HX07 := Lib.hid (HX06.out.below hb7 (Nat.lt_of_lt_of_le hxx0 hsz6))
    have HM7 := Lib.hid (HM6.out.now hb7)
    have HL7 := Lib.hid (HL6.out.now hb7)
    have HR7 := Lib.hid (HR6.out.now hb7)
    have HS7 := Lib.hid (HS6.out.now hb7)
    have HV7 := Lib.hid (HV6.out.now hb7)
    have HA7 := Lib.hid (HA6.out.now hb7)
    have HF7 := Lib.hid (HF6.out.now hb7)
    have HY7 := Lib.hid (HY6.out.now hb7)
    have HZ7 := Lib.hid (HZ6.out.now hb7)
    clear hb7
    go_wp2_with fail
    with_reducible refine (HO2.out _ HV7.out).mono ?_
    rintro e w8 ⟨rfl, rfl⟩
    cases on <;>
      (go_wp2_with fail
       try go_ret
       exact ⟨rfl, HW7.out⟩)


theorem own_groomerTicks : ownKnob Try.prog.godebug = none := by kernel_rfl
theorem laidOut_groomerTicks : laidOutB Try.prog = true := by kernel_rfl
set_option maxRecDepth 100000 in
theorem groomerTicks_lifted (os : Os) (started : os.Started) (H : Type) (enc : TypeId × Value → H) :
    ReturnsInHanded {} Try.checked os 7 .any (Rows.groomerTicksSpec.pre6 enc Try.prog Try.f7 Rows.groomerTicksRow.domain false) (Rows.groomerTicksSpec.post enc Try.prog Try.f7 false true false false) := by
  refine returnsInHanded_of_change (C := Try.checked) own_groomerTicks started (by kernel_rfl) Try.func7
    (ChangeSpec.witness6 (enc := enc) (C := Try.checked) false ⟨#[], #[.agg #[.slice none 0 0, .slice none 0 0, .slice none 0 0, .slice none 0 0], .slice none 0 0, .int .i64 0, .int .i64 0], []⟩ 8 (by kernel_rfl) (by kernel_rfl) (by kernel_rfl) (by kernel_rfl)) ?_
  intro W base args ds gs before hval0 hW hcnd _
  have hval : ∀ (j : Nat) t v, Try.f7.params[j]? = some t → args[j]? = some v → Value.okWide Try.prog W .any base t v := hval0
  have hW' := hW
  obtain ⟨p, q, hA0, hV, rfl, hfz, hnd⟩ := hW
  have hA : DataW.TrodAll enc Try.prog W 0 (fun _ => true) true Try.f7.params.toList args.toList ds p := hA0
  rw [Try.params7] at hA hval
  obtain ⟨v0, vs0, d0, ds0, p0, q0, hargs, rfl, rfl, h0, r0⟩ := trodAll_cons hA
  obtain ⟨v1, vs1, d1, ds1, p1, q1, rfl, rfl, rfl, h1, r1⟩ := trodAll_cons r0
  obtain ⟨v2, vs2, d2, ds2, p2, q2, rfl, rfl, rfl, h2, r2⟩ := trodAll_cons r1
  obtain ⟨v3, vs3, d3, ds3, p3, q3, rfl, rfl, rfl, h3, r3⟩ := trodAll_cons r2
  obtain ⟨rfl, rfl, rfl⟩ := trodAll_nil r3
  obtain rfl : args = #[v0, v1, v2, v3] := by cases args; simp_all
  obtain ⟨rfl, rfl⟩ := trodVars_none hV
  obtain ⟨vn, vl, vr, vb, nd, lf, rs, bs, rfl, hnd, hlf, hrs, hbs⟩ := open_map (hval 0 32 v0 rfl rfl) h0
  obtain ⟨l, hl⟩ := open_grs (hval 1 22 v1 rfl rfl) h1
  obtain ⟨t, rfl, _, _⟩ := open_i64 Try.underlying3 (hval 2 3 v2 rfl rfl) h2
  obtain ⟨rg, rfl, _, _⟩ := open_i64 Try.underlying3 (hval 3 3 v3 rfl rfl) h3
  refine (groomerTicks_any W vn vl vr vb nd lf rs bs hnd hlf hrs hbs v1 l hl t rg).mono fun e W' ⟨he, hb⟩ => ?_
  subst he
  exact ⟨_, rfl, law_post laidOut_groomerTicks (by kernel_rfl) rfl rfl Try.underlying4 hW' rfl hb⟩

theorem groomerTicks_holds : Rows.GroomerTicksSaid :=
  OpenClaim.holds_of_wide 7 Try.f7 rfl rfl rfl rfl rfl rfl rfl ⟨rfl, rfl, rfl, rfl, rfl⟩ rfl rfl rfl rfl rfl (by kernel_rfl) Try.func7 (by kernel_rfl)
    (of_decide_eq_true (by kernel_rfl)) (by unfold Func.isWrapper; rw [if_neg (by decide +kernel)]; exact ⟨rfl, rfl⟩)
    (fun os started H enc _ => groomerTicks_lifted os started H enc)
#print axioms groomerTicks_holds

end Go.Proofs.Ytegijfmdjaehjaa
