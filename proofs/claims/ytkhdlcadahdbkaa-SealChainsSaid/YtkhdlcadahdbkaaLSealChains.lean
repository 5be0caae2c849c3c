/-
  SealChains answers true for every input. Its conditions: none.
-/
import Derived.Test.YtkhdlcadahdbkaaSealLaw
import Derived.Test.YtkhdlcadahdbkaaRow
namespace Go.Proofs.Ytkhdlcadahdbkaa
open Go.ChangeShapes Go.WideShapes Go.ChangeAt Go.RowKit

set_option maxHeartbeats 400000 in
theorem sealChains_any (w : World) (k : Int) (hk : 0 ≤ k ∧ k < 18446744073709551616) (aA : Option Addr) (an ac : Nat) (a : List UInt8) (a1 : an ≤ ac) (a2 : ac ≤ maxLen) (ar : Bytes w w.heap.size aA an a) (bA : Option Addr) (bn bc : Nat) (b : List UInt8) (b1 : bn ≤ bc) (b2 : bc ≤ maxLen) (br : Bytes w w.heap.size bA bn b) :
    Calls Try.prog 7 #[.int .u64 k, .slice aA an ac, .slice bA bn bc] w fun e w' => e = .returned (.bool true) ∧ Below w.heap.size w w' := by
  unfold maxLen at a2 b2
  obtain ⟨hk0, hk1⟩ := hk
  have HA := Lib.hid ar
  have HB := Lib.hid br
  clear ar br
  obtain ⟨T, hT⟩ : ∃ T : Nat → List UInt8 → Nat, T = tagN := ⟨_, rfl⟩
  have HT : Hid (∀ x l, 0 ≤ ((T x l : Nat) : Int) ∧ ((T x l : Nat) : Int) < 18446744073709551616) := fun x l => by rw [hT]; have := tagN_lt x l; omega
  have CH : Hid (∀ (key : Int) (_ : 0 ≤ key) (_ : key < 18446744073709551616) (A : Option Addr) (n c B : Nat) (l : List UInt8) (w : World), Bytes w B A n l → n ≤ c → n ≤ 1000000 →
      Calls Try.prog 19 #[.int .u64 key, .slice A n c] w fun e w' => e = .returned (.int .u64 ((T key.toNat l : Nat) : Int)) ∧ w = w') := by
    rw [hT]; exact chain_any
  have RT : Hid (∀ (key : Int) (_ : 0 ≤ key) (_ : key < 18446744073709551616) (A : Option Addr) (n c B : Nat) (l : List UInt8) (w : World), Bytes w B A n l → n ≤ 1000000 →
      Calls Try.prog 17 #[.int .u64 key, .slice A n c] w fun e w' => e = .returned (.int .u64 ((T key.toNat l : Nat) : Int)) ∧ w = w') := by
    rw [hT]; exact rtag_any
  clear hT
  by_cases hn : an ≤ 1000
  · by_cases hm : bn ≤ 1000
    · go_enter Try.func7, Try.ntmps7
      go_wp2_with fail
      with_reducible refine (alive_any _).mono ?_
      rintro e w1 ⟨rfl, hb1⟩
      have HA1 := Lib.hid (HA.out.below hb1)
      have HB1 := Lib.hid (HB.out.below hb1)
      go_wp2_with fail
      with_reducible refine (CH.out _ hk0 hk1 _ _ _ _ _ _ HA1.out a1 (by omega)).mono ?_
      rintro e w' ⟨rfl, rfl⟩
      go_wp2_with fail
      with_reducible refine (CH.out _ (HT.out _ _).1 (HT.out _ _).2 _ _ _ _ _ _ HB1.out b1 (by omega)).mono ?_
      rintro e w' ⟨rfl, rfl⟩
      go_wp2_with fail
      with_reducible refine (RT.out _ hk0 hk1 _ _ _ _ _ _ HA1.out (by omega)).mono ?_
      rintro e w' ⟨rfl, rfl⟩
      go_wp2_with fail
      with_reducible refine (RT.out _ (HT.out _ _).1 (HT.out _ _).2 _ _ _ _ _ _ HB1.out (by omega)).mono ?_
      rintro e w' ⟨rfl, rfl⟩
      go_wp2_with fail
      go_ret
      exact ⟨by simp, hb1⟩
    · go_enter Try.func7, Try.ntmps7
      go_wp2_with fail
      with_reducible refine (alive_any _).mono ?_
      rintro e w1 ⟨rfl, hb1⟩
      go_wp2_with fail
      go_ret
      exact ⟨rfl, hb1⟩
  · go_enter Try.func7, Try.ntmps7
    go_wp2_with fail
    with_reducible refine (alive_any _).mono ?_
    rintro e w1 ⟨rfl, hb1⟩
    go_wp2_with fail
    go_ret
    exact ⟨rfl, hb1⟩


theorem own_sealChains : ownKnob Try.prog.godebug = none := by kernel_rfl
theorem laidOut_sealChains : laidOutB Try.prog = true := by kernel_rfl
set_option maxRecDepth 100000 in
theorem sealChains_lifted (os : Os) (started : os.Started) (H : Type) (enc : TypeId × Value → H) :
    ReturnsInHanded {} Try.checked os 7 .any (Rows.sealChainsSpec.pre6 enc Try.prog Try.f7 Rows.sealChainsRow.domain false) (Rows.sealChainsSpec.post enc Try.prog Try.f7 false true false false) := by
  refine returnsInHanded_of_change (C := Try.checked) own_sealChains started (by kernel_rfl) Try.func7
    (ChangeSpec.witness6 (enc := enc) (C := Try.checked) false ⟨#[], #[.int .u64 0, .slice none 0 0, .slice none 0 0], []⟩ 8 (by kernel_rfl) (by kernel_rfl) (by kernel_rfl) (by kernel_rfl)) ?_
  intro W base args ds gs before hval0 hW hcnd _
  have hval : ∀ (j : Nat) t v, Try.f7.params[j]? = some t → args[j]? = some v → Value.okWide Try.prog W .any base t v := hval0
  have hW' := hW
  obtain ⟨p, q, hA0, hV, rfl, hfz, hnd⟩ := hW
  have hA : DataW.TrodAll enc Try.prog W 0 (fun _ => true) true Try.f7.params.toList args.toList ds p := hA0
  rw [Try.params7] at hA hval
  obtain ⟨v0, vs0, d0, ds0, p0, q0, hargs, rfl, rfl, h0, r0⟩ := trodAll_cons hA
  obtain ⟨v1, vs1, d1, ds1, p1, q1, rfl, rfl, rfl, h1, r1⟩ := trodAll_cons r0
  obtain ⟨v2, vs2, d2, ds2, p2, q2, rfl, rfl, rfl, h2, r2⟩ := trodAll_cons r1
  obtain ⟨rfl, rfl, rfl⟩ := trodAll_nil r2
  obtain rfl : args = #[v0, v1, v2] := by cases args; simp_all
  obtain ⟨rfl, rfl⟩ := trodVars_none hV
  obtain ⟨k, rfl, k0, k1⟩ := open_u64 Try.underlying22 (hval 0 22 v0 rfl rfl) h0
  obtain ⟨aA, an, ac, a, rfl, a1, a2, ar⟩ := open_bytes Try.underlying28 Try.underlying5 (by kernel_rfl) (hval 1 28 v1 rfl rfl) h1
  obtain ⟨bA, bn, bc, b, rfl, b1, b2, br⟩ := open_bytes Try.underlying28 Try.underlying5 (by kernel_rfl) (hval 2 28 v2 rfl rfl) h2
  refine (sealChains_any W k ⟨k0, k1⟩ aA an ac a a1 a2 ar bA bn bc b b1 b2 br).mono fun e W' ⟨he, hb⟩ => ?_
  subst he
  exact ⟨_, rfl, law_post laidOut_sealChains (by kernel_rfl) rfl rfl Try.underlying4 hW' rfl hb⟩

theorem sealChains_holds : Rows.SealChainsSaid :=
  OpenClaim.holds_of_wide 7 Try.f7 rfl rfl rfl rfl rfl rfl rfl ⟨rfl, rfl, rfl, rfl, rfl⟩ rfl rfl rfl rfl rfl (by kernel_rfl) Try.func7 (by kernel_rfl)
    (of_decide_eq_true (by kernel_rfl)) (by unfold Func.isWrapper; rw [if_neg (by decide +kernel)]; exact ⟨rfl, rfl⟩)
    (fun os started H enc _ => sealChains_lifted os started H enc)
#print axioms sealChains_holds
end Go.Proofs.Ytkhdlcadahdbkaa
