/-
  GroomerOthers answers true for every input. Its conditions: none.
-/
import Derived.Test.YtegijfmdjaehjaaRows
import Derived.Test.YtegijfmdjaehjaaGruP00
import Derived.Test.YtegijfmdjaehjaaGruP01
import Derived.Test.YtegijfmdjaehjaaGruP10
import Derived.Test.YtegijfmdjaehjaaGruP11
namespace Go.Proofs.Ytegijfmdjaehjaa
open Go.ChangeShapes Go.WideShapes Go.ChangeAt Go.RowKit

set_option maxRecDepth 100000 in
set_option maxHeartbeats 4000000 in
theorem groomerOthers_any (w : World) (vn vl vr vb : Value) (nd : List Nd) (lf : List Lf) (rs : List Rn) (bs : List Int) (hnd : StrV Nd.cells 2 w w.heap.size vn nd) (hlf : StrV Lf.cells 8 w w.heap.size vl lf) (hrs : StrV Rn.cells 7 w w.heap.size vr rs) (hbs : RowV w w.heap.size vb bs) (v : Value) (l : List Gr) (hv : GrV w w.heap.size v l) (gi : Int) (tgt : Int) (rg : Int) (s_ : Int) (x0 x1 : Int) :
    Calls Try.prog 10 #[.agg #[vn, vl, vr, vb], v, .int .i64 gi, .int .i64 tgt, .int .i64 rg, .int .i64 s_, .agg #[.int .i64 x0, .int .i64 x1]] w fun e w' => e = .returned (.bool true) ∧ Below w.heap.size w w' := by
  cases h1 : ((sendG (fun u => wayO nd lf rs u tgt) l gi tgt x0).2 == 0) with
  | false =>
    cases h2 : ((groomG rs l gi rg s_ x0).2 == 0) with
    | false => exact others_false_false w vn vl vr vb nd lf rs bs hnd hlf hrs hbs v l hv gi tgt rg s_ x0 x1 h1 h2
    | true => exact others_false_true w vn vl vr vb nd lf rs bs hnd hlf hrs hbs v l hv gi tgt rg s_ x0 x1 h1 h2
  | true =>
    cases h2 : ((groomG rs l gi rg s_ x0).2 == 0) with
    | false => exact others_true_false w vn vl vr vb nd lf rs bs hnd hlf hrs hbs v l hv gi tgt rg s_ x0 x1 h1 h2
    | true => exact others_true_true w vn vl vr vb nd lf rs bs hnd hlf hrs hbs v l hv gi tgt rg s_ x0 x1 h1 h2


theorem own_groomerOthers : ownKnob Try.prog.godebug = none := by kernel_rfl
theorem laidOut_groomerOthers : laidOutB Try.prog = true := by kernel_rfl
set_option maxRecDepth 100000 in
theorem groomerOthers_lifted (os : Os) (started : os.Started) (H : Type) (enc : TypeId × Value → H) :
    ReturnsInHanded {} Try.checked os 10 .any (Rows.groomerOthersSpec.pre6 enc Try.prog Try.f10 Rows.groomerOthersRow.domain false) (Rows.groomerOthersSpec.post enc Try.prog Try.f10 false true false false) := by
  refine returnsInHanded_of_change (C := Try.checked) own_groomerOthers started (by kernel_rfl) Try.func10
    (ChangeSpec.witness6 (enc := enc) (C := Try.checked) false ⟨#[], #[.agg #[.slice none 0 0, .slice none 0 0, .slice none 0 0, .slice none 0 0], .slice none 0 0, .int .i64 0, .int .i64 0, .int .i64 0, .int .i64 0, .agg #[.int .i64 0, .int .i64 0]], []⟩ 8 (by kernel_rfl) (by kernel_rfl) (by kernel_rfl) (by kernel_rfl)) ?_
  intro W base args ds gs before hval0 hW hcnd _
  have hval : ∀ (j : Nat) t v, Try.f10.params[j]? = some t → args[j]? = some v → Value.okWide Try.prog W .any base t v := hval0
  have hW' := hW
  obtain ⟨p, q, hA0, hV, rfl, hfz, hnd⟩ := hW
  have hA : DataW.TrodAll enc Try.prog W 0 (fun _ => true) true Try.f10.params.toList args.toList ds p := hA0
  rw [Try.params10] at hA hval
  obtain ⟨v0, vs0, d0, ds0, p0, q0, hargs, rfl, rfl, h0, r0⟩ := trodAll_cons hA
  obtain ⟨v1, vs1, d1, ds1, p1, q1, rfl, rfl, rfl, h1, r1⟩ := trodAll_cons r0
  obtain ⟨v2, vs2, d2, ds2, p2, q2, rfl, rfl, rfl, h2, r2⟩ := trodAll_cons r1
  obtain ⟨v3, vs3, d3, ds3, p3, q3, rfl, rfl, rfl, h3, r3⟩ := trodAll_cons r2
  obtain ⟨v4, vs4, d4, ds4, p4, q4, rfl, rfl, rfl, h4, r4⟩ := trodAll_cons r3
  obtain ⟨v5, vs5, d5, ds5, p5, q5, rfl, rfl, rfl, h5, r5⟩ := trodAll_cons r4
  obtain ⟨v6, vs6, d6, ds6, p6, q6, rfl, rfl, rfl, h6, r6⟩ := trodAll_cons r5
  obtain ⟨rfl, rfl, rfl⟩ := trodAll_nil r6
  obtain rfl : args = #[v0, v1, v2, v3, v4, v5, v6] := by cases args; simp_all
  obtain ⟨rfl, rfl⟩ := trodVars_none hV
  obtain ⟨vn, vl, vr, vb, nd, lf, rs, bs, rfl, hnd, hlf, hrs, hbs⟩ := open_map (hval 0 32 v0 rfl rfl) h0
  obtain ⟨l, hl⟩ := open_grs (hval 1 22 v1 rfl rfl) h1
  obtain ⟨gi, rfl, _, _⟩ := open_i64 Try.underlying3 (hval 2 3 v2 rfl rfl) h2
  obtain ⟨tgt, rfl, _, _⟩ := open_i64 Try.underlying3 (hval 3 3 v3 rfl rfl) h3
  obtain ⟨rg, rfl, _, _⟩ := open_i64 Try.underlying3 (hval 4 3 v4 rfl rfl) h4
  obtain ⟨s_, rfl, _, _⟩ := open_i64 Try.underlying3 (hval 5 3 v5 rfl rfl) h5
  obtain ⟨x0, x1, rfl, _, _⟩ := open_arr2 Try.underlying49 Try.underlying3 (by kernel_rfl) (by kernel_rfl) (hval 6 49 v6 rfl rfl) h6
  refine (groomerOthers_any W vn vl vr vb nd lf rs bs hnd hlf hrs hbs v1 l hl gi tgt rg s_ x0 x1).mono fun e W' ⟨he, hb⟩ => ?_
  subst he
  exact ⟨_, rfl, law_post laidOut_groomerOthers (by kernel_rfl) rfl rfl Try.underlying4 hW' rfl hb⟩

theorem groomerOthers_holds : Rows.GroomerOthersSaid :=
  OpenClaim.holds_of_wide 10 Try.f10 rfl rfl rfl rfl rfl rfl rfl ⟨rfl, rfl, rfl, rfl, rfl⟩ rfl rfl rfl rfl rfl (by kernel_rfl) Try.func10 (by kernel_rfl)
    (of_decide_eq_true (by kernel_rfl)) (by unfold Func.isWrapper; rw [if_neg (by decide +kernel)]; exact ⟨rfl, rfl⟩)
    (fun os started H enc _ => groomerOthers_lifted os started H enc)
#print axioms groomerOthers_holds

end Go.Proofs.Ytegijfmdjaehjaa
