/-
  SealApart answers true for every input. Its conditions: none.
-/
import Derived.Test.YtkhdlcadahdbkaaSealLaw
import Derived.Test.YtkhdlcadahdbkaaRow
namespace Go.Proofs.Ytkhdlcadahdbkaa
open Go.ChangeShapes Go.WideShapes Go.ChangeAt Go.RowKit

theorem key_beq (m : Nat) (i j : Int) (hi : -9223372036854775808 ≤ i ∧ i ≤ 9223372036854775807) (hj : -9223372036854775808 ≤ j ∧ j ≤ 9223372036854775807) (h : i ≠ j) :
    (((keyN m i : Nat) : Int) == ((keyN m j : Nat) : Int)) = false := by
  have h1 : keyN m i ≠ keyN m j := fun e => h (keyN_inj m i j hi hj e)
  exact beq_eq_false_iff_ne.2 (by omega)
theorem tag_beq (a b : Nat) (ha : a < 18446744073709551616) (hb : b < 18446744073709551616) (l : List UInt8) (hl : l.length < 18446744073709551616) (h : a ≠ b) :
    (((tagN ((a : Nat) : Int).toNat l : Nat) : Int) == ((tagN ((b : Nat) : Int).toNat l : Nat) : Int)) = false := by
  rw [Int.toNat_natCast, Int.toNat_natCast]
  have h1 : tagN a l ≠ tagN b l := fun e => h (tagN_key a b ha hb l hl e)
  exact beq_eq_false_iff_ne.2 (by omega)

set_option maxHeartbeats 400000 in
theorem sealApart_any (w : World) (m : Int) (hm : 0 ≤ m ∧ m < 18446744073709551616) (i j : Int) (hi : -9223372036854775808 ≤ i ∧ i ≤ 9223372036854775807) (hj : -9223372036854775808 ≤ j ∧ j ≤ 9223372036854775807)
    (bA : Option Addr) (bn bc : Nat) (b : List UInt8) (b1 : bn ≤ bc) (b2 : bc ≤ maxLen) (br : Bytes w w.heap.size bA bn b) :
    Calls Try.prog 8 #[.int .u64 m, .agg #[.int .i64 i, .int .i64 j], .slice bA bn bc] w fun e w' => e = .returned (.bool true) ∧ Below w.heap.size w w' := by
  unfold maxLen at b2
  obtain ⟨M, rfl⟩ := Int.eq_ofNat_of_zero_le hm.1
  clear hm
  have br' := br.blen
  have HB := Lib.hid br
  clear br
  have HL := Lib.hid br'
  clear br'
  by_cases hn : bn ≤ 500
  · obtain ⟨a, ha⟩ : ∃ a, a = keyN M i := ⟨_, rfl⟩
    obtain ⟨d, hd⟩ : ∃ d, d = keyN M j := ⟨_, rfl⟩
    have KA : Hid (∀ W : World, Calls Try.prog 14 #[.int .u64 (M : Int), .int .i64 i] W fun e w' => e = .returned (.int .u64 (a : Int)) ∧ W = w') := fun W => by rw [ha]; exact key_any _ _ _
    have KD : Hid (∀ W : World, Calls Try.prog 14 #[.int .u64 (M : Int), .int .i64 j] W fun e w' => e = .returned (.int .u64 (d : Int)) ∧ W = w') := fun W => by rw [hd]; exact key_any _ _ _
    have a1 : a < 18446744073709551616 := by rw [ha]; exact keyN_lt _ _
    have d1 : d < 18446744073709551616 := by rw [hd]; exact keyN_lt _ _
    have hne : i ≠ j → a ≠ d := fun h e => h (keyN_inj M i j hi hj (by rw [← ha, ← hd, e]))
    have heq : i = j → a = d := fun h => by rw [ha, hd, h]
    clear ha hd
    by_cases hij : i = j
    · have hda := heq hij
      clear heq hne
      subst hij
      subst hda
      go_enter Try.func8, Try.ntmps8
      go_wp2_with fail
      with_reducible refine (alive_any _).mono ?_
      rintro e w1 ⟨rfl, hb1⟩
      have hb2 := below_alloc_of hb1
      have c0 : w1.cell? ⟨w.heap.size, 0, none⟩ = some (.int .i64 i) := (box_cell hb1 0).trans (alloc_cell _ _ _ _)
      have c1 : w1.cell? ⟨w.heap.size, 1, none⟩ = some (.int .i64 i) := (box_cell hb1 1).trans (alloc_cell _ _ _ _)
      have HB1 := Lib.hid (HB.out.below hb2)
      clear hb1
      go_wp2_with fail
      go_quiet ((go_at_call 14; exact quiet_left (KA.out _)))
      go_wp2_with fail
      with_reducible refine (tag_any _ (by omega) (by omega) _ _ _ _ _ _ (Reads.drewN HB1.out _) b1 (by omega)).mono ?_
      rintro e w' ⟨rfl, rfl⟩
      go_wp2_with fail
      with_reducible refine (tag_any _ (by omega) (by omega) _ _ _ _ _ _ (Reads.drewN HB1.out _) b1 (by omega)).mono ?_
      rintro e w' ⟨rfl, rfl⟩
      go_wp2_with fail
      go_ret
      exact ⟨by simp, below_drewN hb2 _⟩
    · have had := hne hij
      have hij' : (i == j) = false := beq_eq_false_iff_ne.2 hij
      have hK : ((a : Int) == (d : Int)) = false := beq_eq_false_iff_ne.2 (by omega)
      have HT := Lib.hid (tag_beq a d a1 d1 b (by have := HL.out; omega) had)
      clear heq hne hij had
      go_enter Try.func8, Try.ntmps8
      go_wp2_with fail
      with_reducible refine (alive_any _).mono ?_
      rintro e w1 ⟨rfl, hb1⟩
      have hb2 := below_alloc_of hb1
      have c0 : w1.cell? ⟨w.heap.size, 0, none⟩ = some (.int .i64 i) := (box_cell hb1 0).trans (alloc_cell _ _ _ _)
      have c1 : w1.cell? ⟨w.heap.size, 1, none⟩ = some (.int .i64 j) := (box_cell hb1 1).trans (alloc_cell _ _ _ _)
      have HB1 := Lib.hid (HB.out.below hb2)
      clear hb1
      go_wp2_with fail
      go_quiet ((go_at_call 14; first | (with_reducible exact quiet_left (KA.out _)) | (with_reducible exact quiet_left (KD.out _))))
      go_wp2_with fail
      with_reducible refine (tag_any _ (by omega) (by omega) _ _ _ _ _ _ (Reads.drewN HB1.out _) b1 (by omega)).mono ?_
      rintro e w' ⟨rfl, rfl⟩
      go_wp2_with fail
      with_reducible refine (tag_any _ (by omega) (by omega) _ _ _ _ _ _ (Reads.drewN HB1.out _) b1 (by omega)).mono ?_
      rintro e w' ⟨rfl, rfl⟩
      have hT := HT.out
      go_wp2_with fail
      go_ret
      exact ⟨by simpa using hT, below_drewN hb2 _⟩
  · go_enter Try.func8, Try.ntmps8
    go_wp2_with fail
    with_reducible refine (alive_any _).mono ?_
    rintro e w1 ⟨rfl, hb1⟩
    go_wp2_with fail
    go_ret
    exact ⟨rfl, below_alloc_of hb1⟩

theorem own_sealApart : ownKnob Try.prog.godebug = none := by kernel_rfl
theorem laidOut_sealApart : laidOutB Try.prog = true := by kernel_rfl
set_option maxRecDepth 100000 in
theorem sealApart_lifted (os : Os) (started : os.Started) (H : Type) (enc : TypeId × Value → H) :
    ReturnsInHanded {} Try.checked os 8 .any (Rows.sealApartSpec.pre6 enc Try.prog Try.f8 Rows.sealApartRow.domain false) (Rows.sealApartSpec.post enc Try.prog Try.f8 false true false false) := by
  refine returnsInHanded_of_change (C := Try.checked) own_sealApart started (by kernel_rfl) Try.func8
    (ChangeSpec.witness6 (enc := enc) (C := Try.checked) false ⟨#[], #[.int .u64 0, .agg #[.int .i64 0, .int .i64 0], .slice none 0 0], []⟩ 8 (by kernel_rfl) (by kernel_rfl) (by kernel_rfl) (by kernel_rfl)) ?_
  intro W base args ds gs before hval0 hW hcnd _
  have hval : ∀ (j : Nat) t v, Try.f8.params[j]? = some t → args[j]? = some v → Value.okWide Try.prog W .any base t v := hval0
  have hW' := hW
  obtain ⟨p, q, hA0, hV, rfl, hfz, hnd⟩ := hW
  have hA : DataW.TrodAll enc Try.prog W 0 (fun _ => true) true Try.f8.params.toList args.toList ds p := hA0
  rw [Try.params8] at hA hval
  obtain ⟨v0, vs0, d0, ds0, p0, q0, hargs, rfl, rfl, h0, r0⟩ := trodAll_cons hA
  obtain ⟨v1, vs1, d1, ds1, p1, q1, rfl, rfl, rfl, h1, r1⟩ := trodAll_cons r0
  obtain ⟨v2, vs2, d2, ds2, p2, q2, rfl, rfl, rfl, h2, r2⟩ := trodAll_cons r1
  obtain ⟨rfl, rfl, rfl⟩ := trodAll_nil r2
  obtain rfl : args = #[v0, v1, v2] := by cases args; simp_all
  obtain ⟨rfl, rfl⟩ := trodVars_none hV
  obtain ⟨m, rfl, m0, m1⟩ := open_u64 Try.underlying22 (hval 0 22 v0 rfl rfl) h0
  obtain ⟨i, j, rfl, iw, jw⟩ := open_arr2 Try.underlying33 Try.underlying3 (by kernel_rfl) (by kernel_rfl) (hval 1 33 v1 rfl rfl) h1
  obtain ⟨bA, bn, bc, b, rfl, b1, b2, br⟩ := open_bytes Try.underlying28 Try.underlying5 (by kernel_rfl) (hval 2 28 v2 rfl rfl) h2
  refine (sealApart_any W m ⟨m0, m1⟩ i j (bounds_i64 iw) (bounds_i64 jw) bA bn bc b b1 b2 br).mono fun e W' ⟨he, hb⟩ => ?_
  subst he
  exact ⟨_, rfl, law_post laidOut_sealApart (by kernel_rfl) rfl rfl Try.underlying4 hW' rfl hb⟩

theorem sealApart_holds : Rows.SealApartSaid :=
  OpenClaim.holds_of_wide 8 Try.f8 rfl rfl rfl rfl rfl rfl rfl ⟨rfl, rfl, rfl, rfl, rfl⟩ rfl rfl rfl rfl rfl (by kernel_rfl) Try.func8 (by kernel_rfl)
    (of_decide_eq_true (by kernel_rfl)) (by unfold Func.isWrapper; rw [if_neg (by decide +kernel)]; exact ⟨rfl, rfl⟩)
    (fun os started H enc _ => sealApart_lifted os started H enc)
#print axioms sealApart_holds
end Go.Proofs.Ytkhdlcadahdbkaa
