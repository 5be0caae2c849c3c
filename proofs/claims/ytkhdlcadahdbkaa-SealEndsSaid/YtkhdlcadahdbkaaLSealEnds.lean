/-
  SealEnds answers true for every input. Its conditions: none.
-/
import Derived.Test.YtkhdlcadahdbkaaSealLaw
import Derived.Test.YtkhdlcadahdbkaaRow
namespace Go.Proofs.Ytkhdlcadahdbkaa
open Go.ChangeShapes Go.WideShapes Go.ChangeAt Go.RowKit

def zerosL (l : List UInt8) (k : Nat) : List UInt8 := l ++ List.replicate k 0
theorem zerosL_len (l : List UInt8) (k : Nat) : (zerosL l k).length = l.length + k := by simp [zerosL]
theorem zerosL_zero (l : List UInt8) : zerosL l 0 = l := by simp [zerosL]
theorem zerosL_succ (l : List UInt8) (k : Nat) : (zerosL l k).map B8 ++ [.int .u8 0] = (zerosL l (k + 1)).map B8 := by
  simp [zerosL, List.replicate_succ', B8]
theorem zerosL_take (l : List UInt8) (k n : Nat) (h : l.length = n) : ((zerosL l (k + 1)).map B8).take (n + k) = (zerosL l k).map B8 := by
  subst h
  rw [← zerosL_succ, List.take_append_of_le_length (by simp [zerosL]), List.take_of_length_le (by simp [zerosL])]

set_option maxHeartbeats 400000 in
theorem sealEnds_any (w : World) (key : Int) (hkey : 0 ≤ key ∧ key < 18446744073709551616) (bA : Option Addr) (bn bc : Nat) (b : List UInt8) (b1 : bn ≤ bc) (b2 : bc ≤ maxLen) (br : Bytes w w.heap.size bA bn b) :
    Calls Try.prog 10 #[.int .u64 key, .slice bA bn bc] w fun e w' => e = .returned (.bool true) ∧ Below w.heap.size w w' := by
  unfold maxLen at b2
  obtain ⟨hk0, hk1⟩ := hkey
  have HL := Lib.hid br.blen
  have HB := Lib.hid br
  clear br
  obtain ⟨T, hT⟩ : ∃ T : List UInt8 → Nat, T = tagN key.toNat := ⟨_, rfl⟩
  have KT : Hid (∀ (A : Option Addr) (n c B : Nat) (l : List UInt8) (W : World), Bytes W B A n l → n ≤ c → n ≤ 1000000 →
      Calls Try.prog 16 #[.int .u64 key, .slice A n c] W fun e w' => e = .returned (.int .u64 ((T l : Nat) : Int)) ∧ W = w') := fun A n c B l W h1 h2 h3 => by
    rw [hT]
    exact tag_any key hk0 hk1 A n c B l W h1 h2 h3
  have KZ : Hid (∀ y z, b.length % 8 + z ≤ 8 → 0 < b.length % 8 → y < z → T (zerosL b z) ≠ T (zerosL b y)) := fun y z h1 h2 h3 => by
    rw [hT]
    exact tagN_zeros key.toNat b y z h1 h2 h3 (by have := HL.out; omega)
  clear hT hk0 hk1
  by_cases hn : bn ≤ 500
  · go_enter Try.func10, Try.ntmps10
    go_wp2_with fail
    with_reducible refine (alive_any _).mono ?_
    rintro e w1 ⟨rfl, hb1⟩
    have HB1 := Lib.hid (HB.out.below hb1)
    go_wp2_with
      (at_builtin
       refine wpList_app _ ei_u8 rfl (.tmp 11) (.tmp 12) rfl w1.heap.size (.slice (some ⟨w1.heap.size, 0, none⟩) 0 0) 0 [] rfl (World.ownsRow_lit w1 #[] 0 (Nat.le_refl _) (by simp [maxLen]) rfl) w.heap.size bA bn bc (b.map B8) rfl (HB1.out.alloc hb1.size _) (oneCell_B8 b) (by simp only [maxLen]; omega) (by omega) (by simp) ?_
       intro v2 w2 hown2 _ hbw2 _
       have hbw : Below w1.heap.size w1 w2 := ((Below.refl _ _).alloc (Nat.le_refl _) _).trans hbw2
       simp only [Nat.zero_add, List.nil_append] at hown2
       have HO2 := Lib.hid hown2
       clear hbw2 hown2)
    go_loopw [5] (fun v wr => ∃ k : Nat, bn % 8 + k ≤ 8 ∧ (0 < k → 0 < bn % 8) ∧ wr.ownsRow w1.heap.size 5 1 v (bn + k) ((zerosL b k).map B8) ∧ Below w1.heap.size w1 wr)
      (fun v _ => bn + 8 - lenOf v)
    case atStart => exact ⟨0, by omega, by omega, by rw [zerosL_zero]; exact HO2.out, hbw⟩
    case round =>
      obtain ⟨k, hk, hk0, hown, hbr⟩ := hrel
      obtain ⟨A, c, rfl, hc1, hc2, hrd⟩ := own_open hown
      unfold maxLen at hc2
      by_cases h8 : (bn + k) % 8 = 0
      · have hcond : (((bn : Int) + (k : Int)) % 8 != 0) = false := by rw [bne_eq_false_iff_eq]; omega
        go_wp2_with fail
        go_ret
        exact ⟨rfl, hb1.trans (hbr.mono hb1.size)⟩
      · have hcond : (((bn : Int) + (k : Int)) % 8 != 0) = true := by rw [bne_iff_ne]; omega
        have hz1 := KZ.out 0 (k + 1) (by rw [HL.out]; omega) (by rw [HL.out]; omega) (by omega)
        have hz2 := KZ.out k (k + 1) (by rw [HL.out]; omega) (by rw [HL.out]; omega) (by omega)
        rw [zerosL_zero] at hz1
        have HO := Lib.hid hown
        clear hown hrd
        obtain ⟨t0, ht0⟩ : ∃ t0, t0 = T b := ⟨_, rfl⟩
        obtain ⟨t1, ht1⟩ : ∃ t1, t1 = T (zerosL b (k + 1)) := ⟨_, rfl⟩
        obtain ⟨t2, ht2⟩ : ∃ t2, t2 = T (zerosL b k) := ⟨_, rfl⟩
        rw [← ht0, ← ht1] at hz1
        rw [← ht1, ← ht2] at hz2
        have e1 : ((t1 : Int) == (t0 : Int)) = false := beq_eq_false_iff_ne.2 (by omega)
        have e2 : ((t1 : Int) == (t2 : Int)) = false := beq_eq_false_iff_ne.2 (by omega)
        have HT0 := Lib.hid ht0
        have HT1 := Lib.hid ht1
        have HT2 := Lib.hid ht2
        clear hz1 hz2 ht0 ht1 ht2
        go_wp2_with
          (at_builtin
           refine wpList_app _ ei_u8 rfl (.tmp 18) (.tmp 19) rfl w1.heap.size (.slice A (bn + k) c) (bn + k) ((zerosL b k).map B8) rfl (HO.out.alloc _) (wr.heap.size + 1) (some ⟨wr.heap.size, 0, none⟩) 1 1 [.int .u8 0] rfl (Reads.new wr 5 #[.int .u8 0] 1 1 rfl) (by simp [Value.oneCell']) (by simp only [maxLen]; omega) (by omega) (by have := hbr.size; simp; omega) ?_
           intro v3 w3 hown3 _ hbw3 _
           have hb3 : Below w1.heap.size w1 w3 := (hbr.alloc hbr.size _).trans hbw3
           rw [zerosL_succ] at hown3
           obtain ⟨A3, c3, rfl, hc3, hc4, hrd3⟩ := own_open hown3
           have HO3 := Lib.hid hown3
           have HR3 := Lib.hid hrd3
           have HF3 : Hid (Bytes w3 w3.heap.size A3 (bn + k) (zerosL b k)) := by have := Reads.front hrd3 (m := bn + k) (by omega); rwa [zerosL_take b k bn HL.out] at this
           have HB3 := Lib.hid (HB1.out.below (hb3.mono hb1.size))
           clear hbw3 hown3 hrd3)
        have C0 : Hid (∀ nq, Calls Try.prog 16 #[.int .u64 key, .slice bA bn bc] (w3.drewN nq) fun e w' => e = .returned (.int .u64 (t0 : Int)) ∧ w3.drewN nq = w') := fun nq => by
          rw [HT0.out]; exact KT.out _ _ _ _ _ _ (HB3.out.drewN nq) b1 (by omega)
        have C1 : Hid (∀ nq, Calls Try.prog 16 #[.int .u64 key, .slice A3 (bn + k + 1) c3] (w3.drewN nq) fun e w' => e = .returned (.int .u64 (t1 : Int)) ∧ w3.drewN nq = w') := fun nq => by
          rw [HT1.out]; exact KT.out _ _ _ _ _ _ (Reads.drewN HR3.out nq) hc3 (by omega)
        have C2 : Hid (∀ nq, Calls Try.prog 16 #[.int .u64 key, .slice A3 (bn + k) c3] (w3.drewN nq) fun e w' => e = .returned (.int .u64 (t2 : Int)) ∧ w3.drewN nq = w') := fun nq => by
          rw [HT2.out]; exact KT.out _ _ _ _ _ _ (Reads.drewN HF3.out nq) (by omega) (by omega)
        go_quiet ((go_at_call 16; first | (with_reducible exact quiet_left (C0.out _)) | (with_reducible exact quiet_left (C1.out _)) | (with_reducible exact quiet_left (C2.out _))))
        go_wp2_with fail
        go_roundw
        case rel => exact ⟨k + 1, by omega, by omega, HO3.out, below_drewN hb3 _⟩
        case measure => simp [lenOf]; omega
  · go_enter Try.func10, Try.ntmps10
    go_wp2_with fail
    with_reducible refine (alive_any _).mono ?_
    rintro e w1 ⟨rfl, hb1⟩
    go_wp2_with fail
    go_ret
    exact ⟨rfl, hb1⟩


theorem own_sealEnds : ownKnob Try.prog.godebug = none := by kernel_rfl
theorem laidOut_sealEnds : laidOutB Try.prog = true := by kernel_rfl
set_option maxRecDepth 100000 in
theorem sealEnds_lifted (os : Os) (started : os.Started) (H : Type) (enc : TypeId × Value → H) :
    ReturnsInHanded {} Try.checked os 10 .any (Rows.sealEndsSpec.pre6 enc Try.prog Try.f10 Rows.sealEndsRow.domain false) (Rows.sealEndsSpec.post enc Try.prog Try.f10 false true false false) := by
  refine returnsInHanded_of_change (C := Try.checked) own_sealEnds started (by kernel_rfl) Try.func10
    (ChangeSpec.witness6 (enc := enc) (C := Try.checked) false ⟨#[], #[.int .u64 0, .slice none 0 0], []⟩ 8 (by kernel_rfl) (by kernel_rfl) (by kernel_rfl) (by kernel_rfl)) ?_
  intro W base args ds gs before hval0 hW hcnd _
  have hval : ∀ (j : Nat) t v, Try.f10.params[j]? = some t → args[j]? = some v → Value.okWide Try.prog W .any base t v := hval0
  have hW' := hW
  obtain ⟨p, q, hA0, hV, rfl, hfz, hnd⟩ := hW
  have hA : DataW.TrodAll enc Try.prog W 0 (fun _ => true) true Try.f10.params.toList args.toList ds p := hA0
  rw [Try.params10] at hA hval
  obtain ⟨v0, vs0, d0, ds0, p0, q0, hargs, rfl, rfl, h0, r0⟩ := trodAll_cons hA
  obtain ⟨v1, vs1, d1, ds1, p1, q1, rfl, rfl, rfl, h1, r1⟩ := trodAll_cons r0
  obtain ⟨rfl, rfl, rfl⟩ := trodAll_nil r1
  obtain rfl : args = #[v0, v1] := by cases args; simp_all
  obtain ⟨rfl, rfl⟩ := trodVars_none hV
  obtain ⟨key, rfl, key0, key1⟩ := open_u64 Try.underlying22 (hval 0 22 v0 rfl rfl) h0
  obtain ⟨bA, bn, bc, b, rfl, b1, b2, br⟩ := open_bytes Try.underlying28 Try.underlying5 (by kernel_rfl) (hval 1 28 v1 rfl rfl) h1
  refine (sealEnds_any W key ⟨key0, key1⟩ bA bn bc b b1 b2 br).mono fun e W' ⟨he, hb⟩ => ?_
  subst he
  exact ⟨_, rfl, law_post laidOut_sealEnds (by kernel_rfl) rfl rfl Try.underlying4 hW' rfl hb⟩

theorem sealEnds_holds : Rows.SealEndsSaid :=
  OpenClaim.holds_of_wide 10 Try.f10 rfl rfl rfl rfl rfl rfl rfl ⟨rfl, rfl, rfl, rfl, rfl⟩ rfl rfl rfl rfl rfl (by kernel_rfl) Try.func10 (by kernel_rfl)
    (of_decide_eq_true (by kernel_rfl)) (by unfold Func.isWrapper; rw [if_neg (by decide +kernel)]; exact ⟨rfl, rfl⟩)
    (fun os started H enc _ => sealEnds_lifted os started H enc)
#print axioms sealEnds_holds
end Go.Proofs.Ytkhdlcadahdbkaa
