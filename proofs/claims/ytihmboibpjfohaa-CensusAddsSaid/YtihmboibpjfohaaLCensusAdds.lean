/-
  CensusAdds answers true for every input. Its conditions: none.
-/
import Derived.Test.YtihmboibpjfohaaRows
import Derived.Test.YtihmboibpjfohaaCenR
namespace Go.Proofs.Ytihmboibpjfohaa
open Go.ChangeShapes Go.WideShapes Go.ChangeAt Go.RowKit

set_option maxRecDepth 100000 in
set_option maxHeartbeats 4000000 in
theorem censusAdds_any (w : World) (v : Value) (l : List Cr) (hv : StrV Cr.cells 4 w w.heap.size v l) (kd pl nm at_ : Int) :
    Calls Try.prog 3 #[v, .agg #[.int .i64 kd, .int .i64 pl, .int .i64 nm, .int .i64 at_]] w fun e w' => e = .returned (.bool true) ∧ Below w.heap.size w w' := by
  obtain ⟨A, n, c, rfl, HN, hc1, hc2, hr⟩ := hv.nam
  have HV := Lib.hid hv
  have hm := Int.ofNat_le.2 (show n ≤ maxLen by omega)
  clear hv hr
  go_enter Try.func3, Try.ntmps3
  go_wp2_with fail
  have HBw0 := (Blk.new w 24 #[.int .i64 kd, .int .i64 pl, .int .i64 nm, .int .i64 at_])
  have HLw0 := (below_new w (.cells #[.int .i64 kd, .int .i64 pl, .int .i64 nm, .int .i64 at_] 24))
  have hsw0 : (w.alloc (.cells #[.int .i64 kd, .int .i64 pl, .int .i64 nm, .int .i64 at_] 24)).heap.size = w.heap.size + 1 := by simp
  generalize w.alloc (.cells #[.int .i64 kd, .int .i64 pl, .int .i64 nm, .int .i64 at_] 24) = w0 at HBw0 HLw0 hsw0 ⊢
  replace HBw0 := Lib.hid HBw0
  replace HLw0 := Lib.hid HLw0
  have hlw0 : w.heap.size < w0.heap.size := by omega
  replace hsw0 := Lib.hid hsw0
  have HV0 := Lib.hid (HV.out.now HLw0.out)
  have HX0 := HBw0
  have HB0 := HLw0
  clear HBw0 HLw0 hsw0 hlw0
  with_reducible refine (alive_any _).mono ?_
  rintro e w1 ⟨rfl, hb1⟩
  have HB1 := Lib.hid (HB0.out.trans (hb1.mono HB0.out.size))
  have HV1 := Lib.hid (HV0.out.now hb1)
  have HX1 := Lib.hid (HX0.out.below hb1 HX0.out.lt)
  clear hb1
  by_cases hs : n ≤ 100
  · have d1 : decide ((n : Int) > 100) = false := decide_eq_false (by omega)
    have hl3 : l.length ≤ 100000 := by have := HN.out; omega
    have HA : Hid (∀ W, StrV Cr.cells 4 W W.heap.size (.slice A n c) l → Calls Try.prog 10 #[.slice A n c, .agg #[.int .i64 kd, .int .i64 pl, .int .i64 nm, .int .i64 at_]] W (AddX (addC l ⟨kd, pl, nm, at_⟩) ((rightC (l ++ [(⟨kd, pl, nm, at_⟩ : Cr)]) : Nat) : Int) W)) := fun W h => add_any _ l kd pl nm at_ W h hl3
    have HRA : Hid (∀ W, StrV Cr.cells 4 W W.heap.size (.slice A n c) l → Calls Try.prog 11 #[.slice A n c, .agg #[.int .i64 kd, .int .i64 pl, .int .i64 nm, .int .i64 at_]] W (AddX (addC l ⟨kd, pl, nm, at_⟩) ((rightC (l ++ [(⟨kd, pl, nm, at_⟩ : Cr)]) : Nat) : Int) W)) := fun W h => rAdd_any _ l kd pl nm at_ W h hl3
    generalize ((rightC (l ++ [(⟨kd, pl, nm, at_⟩ : Cr)]) : Nat) : Int) = q at *
    generalize addC l ⟨kd, pl, nm, at_⟩ = al at *
    have HRt : Hid (∀ W, StrV Cr.cells 4 W W.heap.size (.slice A n c) l → Calls Try.prog 12 #[.slice A n c] W fun e w' => e = .returned (.int .i64 ((rightC l : Nat) : Int)) ∧ Below W.heap.size W w') := fun W h => right_any _ l W h
    have HRr : Hid (∀ W, StrV Cr.cells 4 W W.heap.size (.slice A n c) l → Calls Try.prog 13 #[.slice A n c] W fun e w' => e = .returned (.int .i64 ((rightC l : Nat) : Int)) ∧ Below W.heap.size W w') := fun W h => rright_any _ l W h
    generalize ((rightC l : Nat) : Int) = r at *
    go_wp2_with (refine wpList_load_g 24 (.tmp 3) rfl rfl w.heap.size rfl _ _ HX1.out _ Try.underlying24 rfl (by kernel_rfl) ?_)
    with_reducible refine (HA.out _ HV1.out).mono ?_
    rintro e w2 ⟨va, rfl, ha, hb2⟩
    have HB2 := Lib.hid (HB1.out.trans (hb2.mono HB1.out.size))
    have HV2 := Lib.hid (HV1.out.now hb2)
    have HX2 := Lib.hid (HX1.out.below hb2 HX1.out.lt)
    have HA2 := Lib.hid ha
    clear hb2 ha
    go_wp2_with (refine wpList_load_g 24 (.tmp 3) rfl rfl w.heap.size rfl _ _ HX2.out _ Try.underlying24 rfl (by kernel_rfl) ?_)
    with_reducible refine (HRA.out _ HV2.out).mono ?_
    rintro e w3 ⟨vb, rfl, hb, hb3⟩
    have HB3 := Lib.hid (HB2.out.trans (hb3.mono HB2.out.size))
    have HV3 := Lib.hid (HV2.out.now hb3)
    have HA3 := Lib.hid (HA2.out.now hb3)
    have HC3 := Lib.hid hb
    clear hb3 hb
    go_wp2_with fail
    with_reducible refine (HRt.out _ HV3.out).mono ?_
    rintro e w4 ⟨rfl, hb4⟩
    have HB4 := Lib.hid (HB3.out.trans (hb4.mono HB3.out.size))
    have HV4 := Lib.hid (HV3.out.now hb4)
    have HA4 := Lib.hid (HA3.out.now hb4)
    have HC4 := Lib.hid (HC3.out.now hb4)
    clear hb4
    go_wp2_with fail
    with_reducible refine (HRr.out _ HV4.out).mono ?_
    rintro e w5 ⟨rfl, hb5⟩
    have HB5 := Lib.hid (HB4.out.trans (hb5.mono HB4.out.size))
    have HA5 := Lib.hid (HA4.out.now hb5)
    have HC5 := Lib.hid (HC4.out.now hb5)
    clear hb5
    go_wp2_with fail
    with_reducible refine (rsame_any va vb al w5 HA5.out HC5.out).mono ?_
    rintro e w6 ⟨rfl, hb6⟩
    have HB6 := Lib.hid (HB5.out.trans (hb6.mono HB5.out.size))
    clear hb6
    go_wp2_with fail
    go_ret
    exact ⟨rfl, HB6.out⟩
  · have d1 : decide ((n : Int) > 100) = true := decide_eq_true (by omega)
    go_wp2_with fail
    go_ret
    exact ⟨rfl, HB1.out⟩


theorem own_censusAdds : ownKnob Try.prog.godebug = none := by kernel_rfl
theorem laidOut_censusAdds : laidOutB Try.prog = true := by kernel_rfl
set_option maxRecDepth 100000 in
theorem censusAdds_lifted (os : Os) (started : os.Started) (H : Type) (enc : TypeId × Value → H) :
    ReturnsInHanded {} Try.checked os 3 .any (Rows.censusAddsSpec.pre6 enc Try.prog Try.f3 Rows.censusAddsRow.domain false) (Rows.censusAddsSpec.post enc Try.prog Try.f3 false true false false) := by
  refine returnsInHanded_of_change (C := Try.checked) own_censusAdds started (by kernel_rfl) Try.func3
    (ChangeSpec.witness6 (enc := enc) (C := Try.checked) false ⟨#[], #[.slice none 0 0, .agg #[.int .i64 0, .int .i64 0, .int .i64 0, .int .i64 0]], []⟩ 8 (by kernel_rfl) (by kernel_rfl) (by kernel_rfl) (by kernel_rfl)) ?_
  intro W base args ds gs before hval0 hW hcnd _
  have hval : ∀ (j : Nat) t v, Try.f3.params[j]? = some t → args[j]? = some v → Value.okWide Try.prog W .any base t v := hval0
  have hW' := hW
  obtain ⟨p, q, hA0, hV, rfl, hfz, hnd⟩ := hW
  have hA : DataW.TrodAll enc Try.prog W 0 (fun _ => true) true Try.f3.params.toList args.toList ds p := hA0
  rw [Try.params3] at hA hval
  obtain ⟨v0, vs0, d0, ds0, p0, q0, hargs, rfl, rfl, h0, r0⟩ := trodAll_cons hA
  obtain ⟨v1, vs1, d1, ds1, p1, q1, rfl, rfl, rfl, h1, r1⟩ := trodAll_cons r0
  obtain ⟨rfl, rfl, rfl⟩ := trodAll_nil r1
  obtain rfl : args = #[v0, v1] := by cases args; simp_all
  obtain ⟨rfl, rfl⟩ := trodVars_none hV
  obtain ⟨l, hl⟩ := open_crs (hval 0 22 v0 rfl rfl) h0
  obtain ⟨kd, pl, nm, at_, rfl⟩ := open_cr (hval 1 24 v1 rfl rfl) h1
  refine (censusAdds_any W v0 l hl kd pl nm at_).mono fun e W' ⟨he, hb⟩ => ?_
  subst he
  exact ⟨_, rfl, law_post laidOut_censusAdds (by kernel_rfl) rfl rfl Try.underlying4 hW' rfl hb⟩

theorem censusAdds_holds : Rows.CensusAddsSaid :=
  OpenClaim.holds_of_wide 3 Try.f3 rfl rfl rfl rfl rfl rfl rfl ⟨rfl, rfl, rfl, rfl, rfl⟩ rfl rfl rfl rfl rfl (by kernel_rfl) Try.func3 (by kernel_rfl)
    (of_decide_eq_true (by kernel_rfl)) (by unfold Func.isWrapper; rw [if_neg (by decide +kernel)]; exact ⟨rfl, rfl⟩)
    (fun os started H enc _ => censusAdds_lifted os started H enc)
#print axioms censusAdds_holds

end Go.Proofs.Ytihmboibpjfohaa
