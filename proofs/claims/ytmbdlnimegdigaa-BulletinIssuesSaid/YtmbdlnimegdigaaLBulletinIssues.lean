/-
  BulletinIssues answers true for every input. Its conditions: none.
-/
import Derived.Test.YtmbdlnimegdigaaRows
import Derived.Test.YtmbdlnimegdigaaRowS
import Derived.Test.YtmbdlnimegdigaaBulG
import Derived.Test.YtmbdlnimegdigaaBulK
import Derived.Test.YtmbdlnimegdigaaBulJ
import Derived.Test.YtmbdlnimegdigaaBulO
namespace Go.Proofs.Ytmbdlnimegdigaa
open Go.ChangeShapes Go.WideShapes Go.ChangeAt Go.RowKit

set_option maxRecDepth 100000 in
set_option maxHeartbeats 4000000 in
theorem bulletinIssues_any (w : World) (lA : Option Addr) (ln lc : Nat) (l : List Bu) (l1 : ln ≤ lc) (l2 : lc ≤ maxLen) (lr : Buls w w.heap.size lA ln l) (lw : ∀ b ∈ l, BuW b) (b : Bu) (bA : Option Addr) (bc : Nat) (b1 : b.zs.length ≤ bc) (b2 : bc ≤ maxLen) (br : Ints w w.heap.size bA b.zs.length b.zs) (bw : BuW b) :
    Calls Try.prog 4 #[.slice lA ln lc, .agg #[.int .i64 b.ver, .int .i64 b.fr, .int .i64 b.ti, .int .i64 b.lo, .int .i64 b.hi, .slice bA b.zs.length bc, .int .i64 b.lev]] w fun e w' => e = .returned (.bool true) ∧ Below w.heap.size w w' := by
  have HR0 := Lib.hid lr
  have HB0 : Hid (Below w.heap.size w w) := hide (Below.refl _ _)
  have HL := Lib.hid lr.len
  clear lr
  obtain ⟨ver, fr, ti, lo, hi, lev, zs⟩ := b
  obtain ⟨bn, hbn⟩ : ∃ bn, zs.length = bn := ⟨_, rfl⟩
  simp only at b1 br ⊢
  rw [hbn] at b1 br ⊢
  have HZ0 : Hid (Ints w w.heap.size bA bn zs) := hide br
  have HBn := Lib.hid hbn
  clear br hbn
  obtain ⟨r, hr⟩ : ∃ r, rightB l = r := ⟨_, rfl⟩
  have HF := Lib.hid hr
  clear hr lw bw
  have hbm := Nat.le_trans b1 b2
  go_enter Try.func4, Try.ntmps4
  obtain ⟨w0, rfl⟩ : ∃ w0 : World, w0 = w := ⟨_, rfl⟩
  go_wp2_with
    (refine wpList_box_blk rfl 31 (.tmp 1) rfl #[.int .i64 ver, .int .i64 fr, .int .i64 ti, .int .i64 lo, .int .i64 hi, .slice bA bn bc, .int .i64 lev] rfl ?_
     intro w1 hx1 hb1 hsz1
     have HX1 := Lib.hid hx1
     have HB1 := Lib.hid (HB0.out.trans (hb1.mono HB0.out.size))
     have HR1 := Lib.hid (HR0.out.now hb1)
     have HZ1 := Lib.hid (HZ0.out.now hb1)
     have hlx1 := hx1.lt
     clear hx1 hb1 hsz1)
  with_reducible refine (alive_any _).mono ?_
  rintro e w2 ⟨rfl, hb2⟩
  have HB2 := Lib.hid (HB1.out.trans (hb2.mono HB1.out.size))
  have HR2 := Lib.hid (HR1.out.now hb2)
  have HZ2 := Lib.hid (HZ1.out.now hb2)
  have HX2 := Lib.hid (HX1.out.below hb2 hlx1)
  have hlx2 := Nat.lt_of_lt_of_le hlx1 hb2.size
  clear hb2
  go_wp2_with fail
  with_reducible refine (rgt_any _ _ _ _ r _ HR2.out HF.out).mono ?_
  rintro e w3 ⟨rfl, hb3⟩
  have HB3 := Lib.hid (HB2.out.trans (hb3.mono HB2.out.size))
  have HR3 := Lib.hid (HR2.out.now hb3)
  have HZ3 := Lib.hid (HZ2.out.now hb3)
  have HX3 := Lib.hid (HX2.out.below hb3 hlx2)
  have hlx3 := Nat.lt_of_lt_of_le hlx2 hb3.size
  clear hb3
  have e0 : w3.cell? ⟨w0.heap.size, 0, none⟩ = some (.int .i64 ver) := HX3.out.cell 0
  have e1 : w3.cell? ⟨w0.heap.size, 1, none⟩ = some (.int .i64 fr) := HX3.out.cell 1
  have e2 : w3.cell? ⟨w0.heap.size, 2, none⟩ = some (.int .i64 ti) := HX3.out.cell 2
  have e3 : w3.cell? ⟨w0.heap.size, 3, none⟩ = some (.int .i64 lo) := HX3.out.cell 3
  have e4 : w3.cell? ⟨w0.heap.size, 4, none⟩ = some (.int .i64 hi) := HX3.out.cell 4
  have e5 : w3.cell? ⟨w0.heap.size, 5, none⟩ = some (.slice bA bn bc) := HX3.out.cell 5
  have e6 : w3.cell? ⟨w0.heap.size, 6, none⟩ = some (.int .i64 lev) := HX3.out.cell 6
  cases r with
  | false =>
    go_wp2_with fail
    go_ret
    exact ⟨rfl, HB3.out⟩
  | true =>
    by_cases h100 : 100 < bn
    · go_wp2_with fail
      go_ret
      exact ⟨rfl, HB3.out⟩
    have hF : fewB l = true ∧ rightN l = 0 := by have h := HF.out; simpa [rightB] using h
    have hfew : ∀ {l : List Bu} {n : Nat}, fewB l = true → l.length = n → n ≤ 100 ∧ ∀ b ∈ l, b.zs.length ≤ 1000 := by
      intro l n h hl
      simp only [fewB, Bool.and_eq_true, decide_eq_true_eq, List.all_eq_true] at h
      exact ⟨by omega, fun b hb => by have := h.2 b hb; omega⟩
    obtain ⟨hn, hz⟩ := hfew hF.1 HL.out
    have HZs := Lib.hid hz
    clear hz hfew
    have HI1 : Hid (∀ W : World, Buls W W.heap.size lA ln l → Ints W W.heap.size bA bn zs → Calls Try.prog 14 #[.slice lA ln lc, .agg #[.int .i64 ver, .int .i64 fr, .int .i64 ti, .int .i64 lo, .int .i64 hi, .slice bA bn bc, .int .i64 lev]] W (IssR (l ++ [⟨ver, fr, ti, lo, hi, lev, zs⟩]) W)) := fun W h1 h2 => issue_any lA ln lc l ⟨ver, fr, ti, lo, hi, lev, zs⟩ bA bn bc W h1 hn HZs.out h2 (by omega)
    have HI2 : Hid (∀ W : World, Buls W W.heap.size lA ln l → Ints W W.heap.size bA bn zs → Calls Try.prog 15 #[.slice lA ln lc, .agg #[.int .i64 ver, .int .i64 fr, .int .i64 ti, .int .i64 lo, .int .i64 hi, .slice bA bn bc, .int .i64 lev]] W (IssR (l ++ [⟨ver, fr, ti, lo, hi, lev, zs⟩]) W)) := fun W h1 h2 => rissue_any lA ln lc l ⟨ver, fr, ti, lo, hi, lev, zs⟩ bA bn bc W h1 hn h2 b1 b2
    have hll : (l ++ [(⟨ver, fr, ti, lo, hi, lev, zs⟩ : Bu)]).length ≤ 101 := by rw [List.length_append, HL.out]; simp; omega
    have HLL := Lib.hid hll
    clear hF HF hll
    generalize l ++ [(⟨ver, fr, ti, lo, hi, lev, zs⟩ : Bu)] = x at *
    obtain ⟨v, hv⟩ : ∃ v, rightN x = v := ⟨_, rfl⟩
    have HV := Lib.hid hv
    have ld : ∀ {P : Program}, True := trivial
    clear ld hv
    go_wp2_with
      (refine wpList_load_g 31 (.tmp 3) rfl rfl w0.heap.size rfl _ _ HX3.out _ Try.underlying31 rfl (by kernel_rfl) ?_)
    with_reducible refine (HI1.out _ HR3.out HZ3.out).mono ?_
    rintro e w4 ⟨hb4, hres⟩
    rw [HV.out] at hres
    have HB4 := Lib.hid (HB3.out.trans (hb4.mono HB3.out.size))
    have HR4 := Lib.hid (HR3.out.now hb4)
    have HZ4 := Lib.hid (HZ3.out.now hb4)
    have HX4 := Lib.hid (HX3.out.below hb4 hlx3)
    have hlx4 := Nat.lt_of_lt_of_le hlx3 hb4.size
    clear hb4 e0 e1 e2 e3 e4 e5 e6
    by_cases h0 : v = 0
    · obtain ⟨_, A4, n4, c4, rfl, hc41, hc42, hr4⟩ := hres.resolve_left fun h => h.1 h0
      have HQ4 := Lib.hid hr4
      clear hres hr4
      go_wp2_with
        (refine wpList_load_g 31 (.tmp 3) rfl rfl w0.heap.size rfl _ _ HX4.out _ Try.underlying31 rfl (by kernel_rfl) ?_)
      with_reducible refine (HI2.out _ HR4.out HZ4.out).mono ?_
      rintro e w5 ⟨hb5, hres⟩
      rw [HV.out] at hres
      have HB5 := Lib.hid (HB4.out.trans (hb5.mono HB4.out.size))
      obtain ⟨_, A5, n5, c5, rfl, hc51, hc52, hr5⟩ := hres.resolve_left fun h => h.1 h0
      obtain rfl : n4 = n5 := (HQ4.out.len).symm.trans hr5.len
      have HQ5 := Lib.hid (HQ4.out.now hb5)
      have HU5 := Lib.hid hr5
      have hm := Nat.le_trans hc51 hc52
      clear hb5 hres hr5
      go_wp2_with fail
      with_reducible refine (same_any A4 A5 n4 c4 c5 x w5 HQ5.out HU5.out hm).mono ?_
      rintro e w6 ⟨rfl, hb6⟩
      have HB6 := Lib.hid (HB5.out.trans (hb6.mono HB5.out.size))
      clear hb6
      go_wp2_with fail
      go_ret
      exact ⟨ret_b (by simp), HB6.out⟩
    · obtain ⟨_, rfl⟩ : v ≠ 0 ∧ e = .returned (.tuple #[.slice none 0 0, .int .i64 v]) := hres.resolve_right fun h => h0 h.1
      clear hres
      go_wp2_with
        (refine wpList_load_g 31 (.tmp 3) rfl rfl w0.heap.size rfl _ _ HX4.out _ Try.underlying31 rfl (by kernel_rfl) ?_)
      with_reducible refine (HI2.out _ HR4.out HZ4.out).mono ?_
      rintro e w5 ⟨hb5, hres⟩
      rw [HV.out] at hres
      have HB5 := Lib.hid (HB4.out.trans (hb5.mono HB4.out.size))
      obtain ⟨_, rfl⟩ : v ≠ 0 ∧ e = .returned (.tuple #[.slice none 0 0, .int .i64 v]) := hres.resolve_right fun h => h0 h.1
      clear hb5 hres
      go_wp2_with fail
      with_reducible refine (same_any none none 0 0 0 [] w5 (Buls.nil _ _) (Buls.nil _ _) (by decide)).mono ?_
      rintro e w6 ⟨rfl, hb6⟩
      have HB6 := Lib.hid (HB5.out.trans (hb6.mono HB5.out.size))
      clear hb6
      go_wp2_with fail
      go_ret
      exact ⟨ret_b (by simp), HB6.out⟩


theorem own_bulletinIssues : ownKnob Try.prog.godebug = none := by kernel_rfl
theorem laidOut_bulletinIssues : laidOutB Try.prog = true := by kernel_rfl
set_option maxRecDepth 100000 in
theorem bulletinIssues_lifted (os : Os) (started : os.Started) (H : Type) (enc : TypeId × Value → H) :
    ReturnsInHanded {} Try.checked os 4 .any (Rows.bulletinIssuesSpec.pre6 enc Try.prog Try.f4 Rows.bulletinIssuesRow.domain false) (Rows.bulletinIssuesSpec.post enc Try.prog Try.f4 false true false false) := by
  refine returnsInHanded_of_change (C := Try.checked) own_bulletinIssues started (by kernel_rfl) Try.func4
    (ChangeSpec.witness6 (enc := enc) (C := Try.checked) false ⟨#[], #[.slice none 0 0, .agg #[.int .i64 0, .int .i64 0, .int .i64 0, .int .i64 0, .int .i64 0, .slice none 0 0, .int .i64 0]], []⟩ 8 (by kernel_rfl) (by kernel_rfl) (by kernel_rfl) (by kernel_rfl)) ?_
  intro W base args ds gs before hval0 hW hcnd _
  have hval : ∀ (j : Nat) t v, Try.f4.params[j]? = some t → args[j]? = some v → Value.okWide Try.prog W .any base t v := hval0
  have hW' := hW
  obtain ⟨p, q, hA0, hV, rfl, hfz, hnd⟩ := hW
  have hA : DataW.TrodAll enc Try.prog W 0 (fun _ => true) true Try.f4.params.toList args.toList ds p := hA0
  rw [Try.params4] at hA hval
  obtain ⟨v0, vs0, d0, ds0, p0, q0, hargs, rfl, rfl, h0, r0⟩ := trodAll_cons hA
  obtain ⟨v1, vs1, d1, ds1, p1, q1, rfl, rfl, rfl, h1, r1⟩ := trodAll_cons r0
  obtain ⟨rfl, rfl, rfl⟩ := trodAll_nil r1
  obtain rfl : args = #[v0, v1] := by cases args; simp_all
  obtain ⟨rfl, rfl⟩ := trodVars_none hV
  obtain ⟨lA, ln, lc, l, rfl, l1, l2, lr, lw⟩ := open_buls (hval 0 22 v0 rfl rfl) h0
  obtain ⟨b, bA, bc, rfl, b1, b2, br, bw⟩ := open_bul (hval 1 31 v1 rfl rfl) h1
  refine (bulletinIssues_any W lA ln lc l l1 l2 lr lw b bA bc b1 b2 br bw).mono fun e W' ⟨he, hb⟩ => ?_
  subst he
  exact ⟨_, rfl, law_post laidOut_bulletinIssues (by kernel_rfl) rfl rfl Try.underlying4 hW' rfl hb⟩

theorem bulletinIssues_holds : Rows.BulletinIssuesSaid :=
  OpenClaim.holds_of_wide 4 Try.f4 rfl rfl rfl rfl rfl rfl rfl ⟨rfl, rfl, rfl, rfl, rfl⟩ rfl rfl rfl rfl rfl (by kernel_rfl) Try.func4 (by kernel_rfl)
    (of_decide_eq_true (by kernel_rfl)) (by unfold Func.isWrapper; rw [if_neg (by decide +kernel)]; exact ⟨rfl, rfl⟩)
    (fun os started H enc _ => bulletinIssues_lifted os started H enc)
#print axioms bulletinIssues_holds
end Go.Proofs.Ytmbdlnimegdigaa
