/-
  alive of the law of chapter 25, walked.
-/
import Derived.Test.YthlhphifibldnaaCodecV
import Derived.Test.YthlhphifibldnaaMedC
import Derived.Test.YthlhphifibldnaaMedH
namespace Go.Proofs.Ythlhphifibldnaa
open Go.RowKit

theorem lit_bytes (W : World) (cs : Array Value) (l : List UInt8) (n : Nat) (hcs : cs.toList = l.map B8) (hn : l.length = n) (t : TypeId) : Bytes (W.alloc (.cells cs t)) (W.alloc (.cells cs t)).heap.size (some ⟨W.heap.size, 0, none⟩) n l := by
  have h := Reads.bnew W t cs l n hcs hn
  have e : (W.alloc (.cells cs t)).heap.size = W.heap.size + 1 := by simp
  rw [e]
  exact h
theorem exM_good (T : Nat) (hT : T < 18446744073709551616) : GoodM (⟨5, 0, 3, -1, 10, -1, 0, -1, (T : Int)⟩ : Med) := by
  refine ⟨?_, ?_, T, hT, rfl⟩
  · simp only [RangeM]; omega
  · simp only [StateM]; omega
theorem exM_body (t : Int) : bodyN (⟨5, 0, 3, -1, 10, -1, 0, -1, t⟩ : Med) = [5, 0, 3, 0, 10, 0, 0, 0] := rfl
theorem exM_enc (T : Nat) : ∃ bl : List UInt8, encN (⟨5, 0, 3, -1, 10, -1, 0, -1, (T : Int)⟩ : Med) = bl ∧ bl.length = 21 ∧ (bl.getD 0 0).toNat = 16 := by
  refine ⟨_, rfl, ?_, ?_⟩
  · rw [encN, exM_body]
    simp only [frameN, List.length_append, be8_len]
    rfl
  · rw [encN, exM_body]
    rfl
theorem exM_tags : tagM 7 (⟨5, 0, 3, -1, 9, -1, 0, -1, 0⟩ : Med) ≠ tagM 7 (⟨5, 0, 3, -1, 10, -1, 0, -1, 0⟩ : Med) := by decide +kernel
theorem tagM_tag (key : Nat) (a b c d e f g h t t' : Int) : tagM key (⟨a, b, c, d, e, f, g, h, t⟩ : Med) = tagM key (⟨a, b, c, d, e, f, g, h, t'⟩ : Med) := rfl

set_option maxRecDepth 100000 in
set_option maxHeartbeats 4000000 in
theorem alive_any (w : World) : Calls Try.prog 10 #[] w fun e w' => e = .returned (.bool true) ∧ Below w.heap.size w w' := by
  obtain ⟨T, hT⟩ : ∃ T, tagM 7 (newM 5 3 10) = T := ⟨_, rfl⟩
  have hTlt : T < 18446744073709551616 := by rw [← hT]; exact tagN_lt _ _
  obtain ⟨t, ht⟩ : ∃ t : Int, t = (T : Int) := ⟨_, rfl⟩
  obtain ⟨t2, ht2⟩ : ∃ t2 : Int, t2 = t := ⟨_, rfl⟩
  obtain ⟨bl, hbl, hbn, hb0⟩ := exM_enc T
  have HNew : Hid (∀ W : World, Calls Try.prog 13 #[.int .u64 7, .int .i64 5, .int .i64 3, .int .i64 10] W fun e w' => e = .returned (.tuple #[.agg #[.int .i64 5, .int .i64 0, .int .i64 3, .int .i64 (-1), .int .i64 10, .int .i64 (-1), .int .i64 0, .int .i64 (-1), .int .u64 t], .int .i64 0]) ∧ Below W.heap.size W w') := by
    intro W
    have h := new_ok 7 5 3 10 (by omega) W (by omega) T hT
    rw [← ht] at h
    exact h
  have HEnc : Hid (∀ W : World, Calls Try.prog 22 #[.agg #[.int .i64 5, .int .i64 0, .int .i64 3, .int .i64 (-1), .int .i64 10, .int .i64 (-1), .int .i64 0, .int .i64 (-1), .int .u64 t]] W fun e w' => ∃ v, e = .returned v ∧ OwnB w' W.heap.size v bl ∧ Below W.heap.size W w') := by
    intro W
    have h := encode_any (⟨5, 0, 3, -1, 10, -1, 0, -1, (T : Int)⟩ : Med) W T rfl hTlt (exM_good T hTlt).1
    rw [hbl] at h
    rw [ht]
    exact h
  have HDec : Hid (∀ (W : World) (A : Option Addr) (n c : Nat), Bytes W W.heap.size A n bl → n ≤ 1000 → n ≤ c → c ≤ maxLen → Calls Try.prog 24 #[.slice A n c] W fun e w' => e = .returned (.tuple #[.agg #[.int .i64 5, .int .i64 0, .int .i64 3, .int .i64 (-1), .int .i64 10, .int .i64 (-1), .int .i64 0, .int .i64 (-1), .int .u64 t2], .int .i64 0]) ∧ Below W.heap.size W w') := by
    intro W A n c hr hn hc hc2
    refine (decode_any A n c bl W hr (by omega) hc hc2).mono ?_
    rintro e w' ⟨m, r, rfl, hd, hb⟩
    have hd2 := dec_back (exM_good T hTlt)
    rw [hbl] at hd2
    obtain ⟨rfl, rfl⟩ := hd.unique hd2
    exact ⟨by rw [ht2, ht], hb⟩
  have HDec2 : Hid (∀ (W : World) (A : Option Addr) (n c : Nat), Bytes W W.heap.size A n (bl ++ [0]) → n ≤ 1000 → n ≤ c → c ≤ maxLen → Calls Try.prog 24 #[.slice A n c] W fun e w' => e = .returned (.tuple #[.agg #[.int .i64 0, .int .i64 0, .int .i64 0, .int .i64 0, .int .i64 0, .int .i64 0, .int .i64 0, .int .i64 0, .int .u64 0], .int .i64 4]) ∧ Below W.heap.size W w') := by
    intro W A n c hr hn hc hc2
    refine (decode_any A n c (bl ++ [0]) W hr (by omega) hc hc2).mono ?_
    rintro e w' ⟨m, r, rfl, hd, hb⟩
    have hd2 := dec_more (exM_good T hTlt) 0 []
    rw [hbl] at hd2
    obtain ⟨rfl, rfl⟩ := hd.unique hd2
    exact ⟨rfl, hb⟩
  have HBody : Hid (∀ W : World, Calls Try.prog 19 #[.agg #[.int .i64 5, .int .i64 0, .int .i64 3, .int .i64 (-1), .int .i64 10, .int .i64 (-1), .int .i64 0, .int .i64 (-1), .int .u64 t]] W fun e w' => ∃ A c, e = .returned (.slice A 8 c) ∧ Bytes w' w'.heap.size A 8 [5, 0, 3, 0, 10, 0, 0, 0] ∧ Below W.heap.size W w') := by
    intro W
    rw [ht]
    refine (body_any (⟨5, 0, 3, -1, 10, -1, 0, -1, (T : Int)⟩ : Med) W (exM_good T hTlt).1).mono ?_
    rintro e w' ⟨v, rfl, ho, hb⟩
    rw [exM_body] at ho
    obtain ⟨A, c, rfl, _, _, hr⟩ := ho.open_
    exact ⟨A, c, rfl, hr, hb⟩
  have HChk : Hid (∀ W : World, Calls Try.prog 15 #[.int .u64 7, .agg #[.int .i64 5, .int .i64 0, .int .i64 3, .int .i64 (-1), .int .i64 10, .int .i64 (-1), .int .i64 0, .int .i64 (-1), .int .u64 t]] W fun e w' => e = .returned (.bool true) ∧ Below W.heap.size W w') := by
    intro W
    rw [ht]
    exact check_any true 7 (by omega) (⟨5, 0, 3, -1, 10, -1, 0, -1, (T : Int)⟩ : Med) W 0 (RightE.r0 (exM_good T hTlt).1 (exM_good T hTlt).2.1) (decide_eq_true ⟨rfl, by rw [← hT]; rfl⟩)
  have HChk2 : Hid (∀ W : World, Calls Try.prog 15 #[.int .u64 7, .agg #[.int .i64 5, .int .i64 0, .int .i64 3, .int .i64 (-1), .int .i64 9, .int .i64 (-1), .int .i64 0, .int .i64 (-1), .int .u64 t]] W fun e w' => e = .returned (.bool false) ∧ Below W.heap.size W w') := by
    intro W
    rw [ht]
    refine check_any false 7 (by omega) (⟨5, 0, 3, -1, 9, -1, 0, -1, (T : Int)⟩ : Med) W 0 (RightE.r0 (by simp only [RangeM]; omega) (by simp only [StateM]; omega)) (decide_eq_false fun h => ?_)
    have h2 := h.2
    rw [tagM_tag 7 5 0 3 (-1) 9 (-1) 0 (-1) (T : Int) 0] at h2
    exact exM_tags (Int.ofNat.inj (h2.symm.trans (by rw [← hT]; rfl)))
  have HRt : Hid (∀ W : World, Calls Try.prog 11 #[.agg #[.int .i64 5, .int .i64 0, .int .i64 3, .int .i64 (-1), .int .i64 10, .int .i64 (-1), .int .i64 0, .int .i64 100, .int .u64 t]] W fun e w' => e = .returned (.int .i64 10) ∧ Below W.heap.size W w') := by
    intro W
    refine (mright_any (⟨5, 0, 3, -1, 10, -1, 0, 100, t⟩ : Med) W).mono ?_
    rintro e w' ⟨r, rfl, hr, hb⟩
    exact ⟨by rw [hr.unique (RightE.r10 (by simp only [RangeM]; omega) (fun h => h.1 ⟨rfl, by simp⟩))], hb⟩
  have HRt2 : Hid (∀ W : World, Calls Try.prog 11 #[.agg #[.int .i64 5, .int .i64 0, .int .i64 3, .int .i64 101, .int .i64 10, .int .i64 (-1), .int .i64 0, .int .i64 100, .int .u64 t]] W fun e w' => e = .returned (.int .i64 10) ∧ Below W.heap.size W w') := by
    intro W
    refine (mright_any (⟨5, 0, 3, 101, 10, -1, 0, 100, t⟩ : Med) W).mono ?_
    rintro e w' ⟨r, rfl, hr, hb⟩
    exact ⟨by rw [hr.unique (RightE.r10 (by simp only [RangeM]; omega) (fun h => by have h2 := h.2.2; simp at h2))], hb⟩
  have d1 : (t2 == t) = true := beq_iff_eq.2 ht2
  have d2 : (t == t2) = true := beq_iff_eq.2 ht2.symm
  have HL := Lib.hid hbn
  have HB0 := Lib.hid hb0
  clear hT hTlt ht ht2 hbl hbn hb0
  go_enter Try.func10, Try.ntmps10
  go_wp2_with fail
  with_reducible refine (HNew.out _).mono ?_
  rintro e w1 ⟨rfl, hb1⟩
  have HP0_1 := Lib.hid hb1
  have HP1_1 := Lib.hid (Below.refl w1.heap.size w1)
  clear hb1
  go_wp2_with
    (first
     | (refine wpList_store_blk rfl 24 (.tmp 1) (.tmp 13) rfl w1.heap.size #[.int .i64 5, .int .i64 0, .int .i64 3, .int .i64 (-1), .int .i64 10, .int .i64 (-1), .int .i64 0, .int .i64 (-1), .int .u64 t] rfl rfl _ _ (Blk.new w1 24 #[.int .i64 0, .int .i64 0, .int .i64 0, .int .i64 0, .int .i64 0, .int .i64 0, .int .i64 0, .int .i64 0, .int .u64 0]) (by kernel_rfl) rfl (by simp [Value.oneCell']) ?_
        intro w2 hx2 hon2
        have hb2 := hon2.below (below_new w1 (.cells #[.int .i64 0, .int .i64 0, .int .i64 0, .int .i64 0, .int .i64 0, .int .i64 0, .int .i64 0, .int .i64 0, .int .u64 0] 24)) (Nat.le_refl _)
        have HP0_2 := Lib.hid (HP0_1.out.trans (hb2.mono HP0_1.out.size))
        have HP1_2 := Lib.hid (HP1_1.out.trans (hb2.mono HP1_1.out.size))
        have HX2 := Lib.hid hx2
        have hl2 : w1.heap.size < w2.heap.size := hx2.lt
        have HP2_2 := Lib.hid (Below.refl w2.heap.size w2)
        clear hx2 hon2 hb2)
     | (refine wpList_load_g 24 (.tmp 1) rfl rfl w1.heap.size rfl _ _ HX2.out _ Try.underlying24 rfl (by kernel_rfl) ?_)
     | (refine wpList_store_blk rfl 24 (.tmp 3) (.tmp 17) rfl w2.heap.size #[.int .i64 5, .int .i64 0, .int .i64 3, .int .i64 (-1), .int .i64 10, .int .i64 (-1), .int .i64 0, .int .i64 (-1), .int .u64 t] rfl rfl _ _ (Blk.new w2 24 #[.int .i64 0, .int .i64 0, .int .i64 0, .int .i64 0, .int .i64 0, .int .i64 0, .int .i64 0, .int .i64 0, .int .u64 0]) (by kernel_rfl) rfl (by simp [Value.oneCell']) ?_
        intro w3 hx3 hon3
        have hb3 := hon3.below (below_new w2 (.cells #[.int .i64 0, .int .i64 0, .int .i64 0, .int .i64 0, .int .i64 0, .int .i64 0, .int .i64 0, .int .i64 0, .int .u64 0] 24)) (Nat.le_refl _)
        have HP0_3 := Lib.hid (HP0_2.out.trans (hb3.mono HP0_2.out.size))
        have HP1_3 := Lib.hid (HP1_2.out.trans (hb3.mono HP1_2.out.size))
        have HP2_3 := Lib.hid (HP2_2.out.trans (hb3.mono HP2_2.out.size))
        have HX3 := Lib.hid hx3
        have hl3 : w2.heap.size < w3.heap.size := hx3.lt
        have HP3_3 := Lib.hid (Below.refl w3.heap.size w3)
        clear hx3 hon3 hb3)
     | (refine wpList_store_field 3 (.tmp 18) (.const (.int .i64 9)) rfl rfl w2.heap.size 4 (.int .i64 9) rfl rfl _ _ HX3.out (by kernel_rfl) (by simp) rfl rfl ?_
        intro w4 hx4 hon4
        have HX4 : Hid (Blk w4 w2.heap.size 24 #[.int .i64 5, .int .i64 0, .int .i64 3, .int .i64 (-1), .int .i64 9, .int .i64 (-1), .int .i64 0, .int .i64 (-1), .int .u64 t]) := hide hx4
        have hl4 : w2.heap.size < w4.heap.size := hx4.lt
        have HP0_4 := Lib.hid (hon4.below HP0_3.out (HP0_2.out.size))
        have HP1_4 := Lib.hid (hon4.below HP1_3.out (HP1_2.out.size))
        have HP2_4 := Lib.hid (hon4.below HP2_3.out (Nat.le_refl _))
        have HP4_4 := Lib.hid (Below.refl w4.heap.size w4)
        clear hx4 hon4)
     | (refine wpList_load_g 24 (.tmp 1) rfl rfl w1.heap.size rfl _ _ (HX2.out.below HP2_4.out hl2) _ Try.underlying24 rfl (by kernel_rfl) ?_))
  with_reducible refine (HEnc.out _).mono ?_
  rintro e w5 ⟨v5, rfl, hown5, hb5⟩
  have HP0_5 := Lib.hid (HP0_4.out.trans (hb5.mono HP0_4.out.size))
  have HP1_5 := Lib.hid (HP1_4.out.trans (hb5.mono HP1_4.out.size))
  have HP2_5 := Lib.hid (HP2_4.out.trans (hb5.mono HP2_4.out.size))
  have HP4_5 := Lib.hid (HP4_4.out.trans (hb5.mono HP4_4.out.size))
  have HP5_5 := Lib.hid (Below.refl w5.heap.size w5)
  obtain ⟨A5, n5, c5, rfl, HN5, hc51, hc52, hr5⟩ := hown5.nam
  obtain rfl : n5 = 21 := by rw [← HN5.out, HL.out]
  have HV5 := Lib.hid hr5
  have HM5 := Lib.hid hc52
  clear hown5 hb5 hr5 hc52
  go_wp2_with fail
  with_reducible refine (HDec.out _ _ _ _ HV5.out (by omega) hc51 HM5.out).mono ?_
  rintro e w6 ⟨rfl, hb6⟩
  have HP0_6 := Lib.hid (HP0_5.out.trans (hb6.mono HP0_5.out.size))
  have HP1_6 := Lib.hid (HP1_5.out.trans (hb6.mono HP1_5.out.size))
  have HP2_6 := Lib.hid (HP2_5.out.trans (hb6.mono HP2_5.out.size))
  have HP4_6 := Lib.hid (HP4_5.out.trans (hb6.mono HP4_5.out.size))
  have HP5_6 := Lib.hid (HP5_5.out.trans (hb6.mono HP5_5.out.size))
  clear hb6
  go_wp2_with
    (first
     | (refine wpList_store_blk rfl 24 (.tmp 5) (.tmp 24) rfl w6.heap.size #[.int .i64 5, .int .i64 0, .int .i64 3, .int .i64 (-1), .int .i64 10, .int .i64 (-1), .int .i64 0, .int .i64 (-1), .int .u64 t2] rfl rfl _ _ (Blk.new w6 24 #[.int .i64 0, .int .i64 0, .int .i64 0, .int .i64 0, .int .i64 0, .int .i64 0, .int .i64 0, .int .i64 0, .int .u64 0]) (by kernel_rfl) rfl (by simp [Value.oneCell']) ?_
        intro w7 hx7 hon7
        have hb7 := hon7.below (below_new w6 (.cells #[.int .i64 0, .int .i64 0, .int .i64 0, .int .i64 0, .int .i64 0, .int .i64 0, .int .i64 0, .int .i64 0, .int .u64 0] 24)) (Nat.le_refl _)
        have HP0_7 := Lib.hid (HP0_6.out.trans (hb7.mono HP0_6.out.size))
        have HP1_7 := Lib.hid (HP1_6.out.trans (hb7.mono HP1_6.out.size))
        have HP2_7 := Lib.hid (HP2_6.out.trans (hb7.mono HP2_6.out.size))
        have HP4_7 := Lib.hid (HP4_6.out.trans (hb7.mono HP4_6.out.size))
        have HP5_7 := Lib.hid (HP5_6.out.trans (hb7.mono HP5_6.out.size))
        have HX7 := Lib.hid hx7
        have hl7 : w6.heap.size < w7.heap.size := hx7.lt
        have HP7_7 := Lib.hid (Below.refl w7.heap.size w7)
        have HV7 := Lib.hid (HV5.out.now HP5_7.out)
        clear hx7 hon7 hb7)
     | (at_builtin
        refine wpList_app _ ei_byte rfl (.tmp 27) (.tmp 28) rfl w7.heap.size (.slice (some ⟨w7.heap.size, 0, none⟩) 0 0) 0 [] rfl (World.ownsRow_lit w7 #[] 0 (Nat.le_refl _) (by simp [maxLen]) rfl) w7.heap.size A5 21 c5 (bl.map B8) rfl (HV7.out.alloc (Nat.le_refl _) _) (oneCell_B8 _) (by simp only [maxLen]; omega) (by omega) (by simp) ?_
        intro v8 w8 hown8 hg8 hbw8 hat8
        simp only [Nat.zero_add, List.nil_append] at hown8
        have hb8 : Below w7.heap.size w7 w8 := ((Below.refl _ _).alloc (Nat.le_refl _) _).trans hbw8
        have HO8 := Lib.hid hown8
        have hs8 := hb8.size
        have HP0_8 := Lib.hid (HP0_7.out.trans (hb8.mono HP0_7.out.size))
        have HP1_8 := Lib.hid (HP1_7.out.trans (hb8.mono HP1_7.out.size))
        have HP2_8 := Lib.hid (HP2_7.out.trans (hb8.mono HP2_7.out.size))
        have HP4_8 := Lib.hid (HP4_7.out.trans (hb8.mono HP4_7.out.size))
        have HP5_8 := Lib.hid (HP5_7.out.trans (hb8.mono HP5_7.out.size))
        have HP7_8 := Lib.hid (HP7_7.out.trans (hb8.mono HP7_7.out.size))
        clear hown8 hg8 hbw8 hat8 hb8)
     | (at_builtin
        refine wpList_app_lit ei_byte rfl (.tmp 29) (.tmp 30) rfl w7.heap.size v8 21 (bl.map B8) rfl HO8.out 1 rfl rfl (by simp [Value.oneCell']) (by simp only [maxLen]; omega) (by omega) hs8 ?_
        intro v9 w9 hown9 hb9 hg9 hat9
        have HP0_9 := Lib.hid (HP0_8.out.trans (hb9.mono HP0_7.out.size))
        have HP1_9 := Lib.hid (HP1_8.out.trans (hb9.mono HP1_7.out.size))
        have HP2_9 := Lib.hid (HP2_8.out.trans (hb9.mono HP2_7.out.size))
        have HP4_9 := Lib.hid (HP4_8.out.trans (hb9.mono HP4_7.out.size))
        have HP5_9 := Lib.hid (HP5_8.out.trans (hb9.mono HP5_7.out.size))
        have HP7_9 := Lib.hid (HP7_8.out.trans (hb9.mono HP7_7.out.size))
        have HO9 : Hid (OwnB w9 w7.heap.size v9 (bl ++ [0])) := hide (OwnB.mk' hown9 (by simp [HL.out]) (by simp [B8]))
        obtain ⟨A9, n9, c9, hv9, HN9, hc91, hc92, hr9⟩ := HO9.out.nam
        subst hv9
        have hn9 : n9 ≤ 1000 := by rw [← HN9.out]; simp [HL.out]
        have HM9 := Lib.hid hc92
        have HR9 := Lib.hid hr9
        clear hown9 hb9 hg9 hat9 hc92 hr9))
  with_reducible refine (HDec2.out _ _ _ _ HR9.out hn9 hc91 HM9.out).mono ?_
  rintro e w10 ⟨rfl, hb10⟩
  have HP0_10 := Lib.hid (HP0_9.out.trans (hb10.mono HP0_9.out.size))
  have HP1_10 := Lib.hid (HP1_9.out.trans (hb10.mono HP1_9.out.size))
  have HP2_10 := Lib.hid (HP2_9.out.trans (hb10.mono HP2_9.out.size))
  have HP4_10 := Lib.hid (HP4_9.out.trans (hb10.mono HP4_9.out.size))
  have HP5_10 := Lib.hid (HP5_9.out.trans (hb10.mono HP5_9.out.size))
  have HP7_10 := Lib.hid (HP7_9.out.trans (hb10.mono HP7_9.out.size))
  clear hb10
  go_wp2_with
    (first
     | (refine wpList_store_blk rfl 24 (.tmp 7) (.tmp 33) rfl w10.heap.size #[.int .i64 0, .int .i64 0, .int .i64 0, .int .i64 0, .int .i64 0, .int .i64 0, .int .i64 0, .int .i64 0, .int .u64 0] rfl rfl _ _ (Blk.new w10 24 #[.int .i64 0, .int .i64 0, .int .i64 0, .int .i64 0, .int .i64 0, .int .i64 0, .int .i64 0, .int .i64 0, .int .u64 0]) (by kernel_rfl) rfl (by simp [Value.oneCell']) ?_
        intro w11 hx11 hon11
        have hb11 := hon11.below (below_new w10 (.cells #[.int .i64 0, .int .i64 0, .int .i64 0, .int .i64 0, .int .i64 0, .int .i64 0, .int .i64 0, .int .i64 0, .int .u64 0] 24)) (Nat.le_refl _)
        have HP0_11 := Lib.hid (HP0_10.out.trans (hb11.mono HP0_10.out.size))
        have HP1_11 := Lib.hid (HP1_10.out.trans (hb11.mono HP1_10.out.size))
        have HP2_11 := Lib.hid (HP2_10.out.trans (hb11.mono HP2_10.out.size))
        have HP4_11 := Lib.hid (HP4_10.out.trans (hb11.mono HP4_10.out.size))
        have HP5_11 := Lib.hid (HP5_10.out.trans (hb11.mono HP5_10.out.size))
        have HP7_11 := Lib.hid (HP7_10.out.trans (hb11.mono HP7_10.out.size))
        have HX11 := Lib.hid hx11
        have hl11 : w10.heap.size < w11.heap.size := hx11.lt
        have HP11_11 := Lib.hid (Below.refl w11.heap.size w11)
        clear hx11 hon11 hb11)
     | (refine wpList_load_g 24 (.tmp 1) rfl rfl w1.heap.size rfl _ _ (HX2.out.below HP2_11.out hl2) _ Try.underlying24 rfl (by kernel_rfl) ?_)
     | (refine wpList_store_blk rfl 24 (.tmp 9) (.tmp 35) rfl w11.heap.size #[.int .i64 5, .int .i64 0, .int .i64 3, .int .i64 (-1), .int .i64 10, .int .i64 (-1), .int .i64 0, .int .i64 (-1), .int .u64 t] rfl rfl _ _ (Blk.new w11 24 #[.int .i64 0, .int .i64 0, .int .i64 0, .int .i64 0, .int .i64 0, .int .i64 0, .int .i64 0, .int .i64 0, .int .u64 0]) (by kernel_rfl) rfl (by simp [Value.oneCell']) ?_
        intro w12 hx12 hon12
        have hb12 := hon12.below (below_new w11 (.cells #[.int .i64 0, .int .i64 0, .int .i64 0, .int .i64 0, .int .i64 0, .int .i64 0, .int .i64 0, .int .i64 0, .int .u64 0] 24)) (Nat.le_refl _)
        have HP0_12 := Lib.hid (HP0_11.out.trans (hb12.mono HP0_11.out.size))
        have HP1_12 := Lib.hid (HP1_11.out.trans (hb12.mono HP1_11.out.size))
        have HP2_12 := Lib.hid (HP2_11.out.trans (hb12.mono HP2_11.out.size))
        have HP4_12 := Lib.hid (HP4_11.out.trans (hb12.mono HP4_11.out.size))
        have HP5_12 := Lib.hid (HP5_11.out.trans (hb12.mono HP5_11.out.size))
        have HP7_12 := Lib.hid (HP7_11.out.trans (hb12.mono HP7_11.out.size))
        have HP11_12 := Lib.hid (HP11_11.out.trans (hb12.mono HP11_11.out.size))
        have HX12 := Lib.hid hx12
        have hl12 : w11.heap.size < w12.heap.size := hx12.lt
        have HP12_12 := Lib.hid (Below.refl w12.heap.size w12)
        clear hx12 hon12 hb12)
     | (refine wpList_store_field 3 (.tmp 36) (.const (.int .i64 100)) rfl rfl w11.heap.size 7 (.int .i64 100) rfl rfl _ _ HX12.out (by kernel_rfl) (by simp) rfl rfl ?_
        intro w13 hx13 hon13
        have HX13 : Hid (Blk w13 w11.heap.size 24 #[.int .i64 5, .int .i64 0, .int .i64 3, .int .i64 (-1), .int .i64 10, .int .i64 (-1), .int .i64 0, .int .i64 100, .int .u64 t]) := hide hx13
        have hl13 : w11.heap.size < w13.heap.size := hx13.lt
        have HP0_13 := Lib.hid (hon13.below HP0_12.out (HP0_11.out.size))
        have HP1_13 := Lib.hid (hon13.below HP1_12.out (HP1_11.out.size))
        have HP2_13 := Lib.hid (hon13.below HP2_12.out (HP2_11.out.size))
        have HP4_13 := Lib.hid (hon13.below HP4_12.out (HP4_11.out.size))
        have HP5_13 := Lib.hid (hon13.below HP5_12.out (HP5_11.out.size))
        have HP7_13 := Lib.hid (hon13.below HP7_12.out (HP7_11.out.size))
        have HP11_13 := Lib.hid (hon13.below HP11_12.out (Nat.le_refl _))
        have HP13_13 := Lib.hid (Below.refl w13.heap.size w13)
        clear hx13 hon13)
     | (refine wpList_load_g 24 (.tmp 9) rfl rfl w11.heap.size rfl _ _ HX13.out _ Try.underlying24 rfl (by kernel_rfl) ?_)
     | (refine wpList_store_blk rfl 24 (.tmp 10) (.tmp 37) rfl w13.heap.size #[.int .i64 5, .int .i64 0, .int .i64 3, .int .i64 (-1), .int .i64 10, .int .i64 (-1), .int .i64 0, .int .i64 100, .int .u64 t] rfl rfl _ _ (Blk.new w13 24 #[.int .i64 0, .int .i64 0, .int .i64 0, .int .i64 0, .int .i64 0, .int .i64 0, .int .i64 0, .int .i64 0, .int .u64 0]) (by kernel_rfl) rfl (by simp [Value.oneCell']) ?_
        intro w14 hx14 hon14
        have hb14 := hon14.below (below_new w13 (.cells #[.int .i64 0, .int .i64 0, .int .i64 0, .int .i64 0, .int .i64 0, .int .i64 0, .int .i64 0, .int .i64 0, .int .u64 0] 24)) (Nat.le_refl _)
        have HP0_14 := Lib.hid (HP0_13.out.trans (hb14.mono HP0_13.out.size))
        have HP1_14 := Lib.hid (HP1_13.out.trans (hb14.mono HP1_13.out.size))
        have HP2_14 := Lib.hid (HP2_13.out.trans (hb14.mono HP2_13.out.size))
        have HP4_14 := Lib.hid (HP4_13.out.trans (hb14.mono HP4_13.out.size))
        have HP5_14 := Lib.hid (HP5_13.out.trans (hb14.mono HP5_13.out.size))
        have HP7_14 := Lib.hid (HP7_13.out.trans (hb14.mono HP7_13.out.size))
        have HP11_14 := Lib.hid (HP11_13.out.trans (hb14.mono HP11_13.out.size))
        have HP13_14 := Lib.hid (HP13_13.out.trans (hb14.mono HP13_13.out.size))
        have HX14 := Lib.hid hx14
        have hl14 : w13.heap.size < w14.heap.size := hx14.lt
        have HP14_14 := Lib.hid (Below.refl w14.heap.size w14)
        clear hx14 hon14 hb14)
     | (refine wpList_store_field 3 (.tmp 38) (.const (.int .i64 101)) rfl rfl w13.heap.size 3 (.int .i64 101) rfl rfl _ _ HX14.out (by kernel_rfl) (by simp) rfl rfl ?_
        intro w15 hx15 hon15
        have HX15 : Hid (Blk w15 w13.heap.size 24 #[.int .i64 5, .int .i64 0, .int .i64 3, .int .i64 101, .int .i64 10, .int .i64 (-1), .int .i64 0, .int .i64 100, .int .u64 t]) := hide hx15
        have hl15 : w13.heap.size < w15.heap.size := hx15.lt
        have HP0_15 := Lib.hid (hon15.below HP0_14.out (HP0_13.out.size))
        have HP1_15 := Lib.hid (hon15.below HP1_14.out (HP1_13.out.size))
        have HP2_15 := Lib.hid (hon15.below HP2_14.out (HP2_13.out.size))
        have HP4_15 := Lib.hid (hon15.below HP4_14.out (HP4_13.out.size))
        have HP5_15 := Lib.hid (hon15.below HP5_14.out (HP5_13.out.size))
        have HP7_15 := Lib.hid (hon15.below HP7_14.out (HP7_13.out.size))
        have HP11_15 := Lib.hid (hon15.below HP11_14.out (HP11_13.out.size))
        have HP13_15 := Lib.hid (hon15.below HP13_14.out (Nat.le_refl _))
        have HP15_15 := Lib.hid (Below.refl w15.heap.size w15)
        have HYa := Lib.hid (HX2.out.below HP2_15.out hl2)
        have a0 : w15.cell? ⟨w1.heap.size, 0, none⟩ = some (.int .i64 5) := HYa.out.cell 0
        have a1 : w15.cell? ⟨w1.heap.size, 1, none⟩ = some (.int .i64 0) := HYa.out.cell 1
        have a2 : w15.cell? ⟨w1.heap.size, 2, none⟩ = some (.int .i64 3) := HYa.out.cell 2
        have a3 : w15.cell? ⟨w1.heap.size, 3, none⟩ = some (.int .i64 (-1)) := HYa.out.cell 3
        have a4 : w15.cell? ⟨w1.heap.size, 4, none⟩ = some (.int .i64 10) := HYa.out.cell 4
        have a5 : w15.cell? ⟨w1.heap.size, 5, none⟩ = some (.int .i64 (-1)) := HYa.out.cell 5
        have a6 : w15.cell? ⟨w1.heap.size, 6, none⟩ = some (.int .i64 0) := HYa.out.cell 6
        have a7 : w15.cell? ⟨w1.heap.size, 7, none⟩ = some (.int .i64 (-1)) := HYa.out.cell 7
        have a8 : w15.cell? ⟨w1.heap.size, 8, none⟩ = some (.int .u64 t) := HYa.out.cell 8
        clear hx15 hon15))
  with_reducible refine (HBody.out _).mono ?_
  rintro e w16 ⟨A16, c16, rfl, hr16, hb16⟩
  have HR16 := Lib.hid hr16
  have HP0_16 := Lib.hid (HP0_15.out.trans (hb16.mono HP0_15.out.size))
  have HP1_16 := Lib.hid (HP1_15.out.trans (hb16.mono HP1_15.out.size))
  have HP2_16 := Lib.hid (HP2_15.out.trans (hb16.mono HP2_15.out.size))
  have HP4_16 := Lib.hid (HP4_15.out.trans (hb16.mono HP4_15.out.size))
  have HP5_16 := Lib.hid (HP5_15.out.trans (hb16.mono HP5_15.out.size))
  have HP7_16 := Lib.hid (HP7_15.out.trans (hb16.mono HP7_15.out.size))
  have HP11_16 := Lib.hid (HP11_15.out.trans (hb16.mono HP11_15.out.size))
  have HP13_16 := Lib.hid (HP13_15.out.trans (hb16.mono HP13_15.out.size))
  have HP15_16 := Lib.hid (HP15_15.out.trans (hb16.mono HP15_15.out.size))
  clear hr16 hb16 a0 a1 a2 a3 a4 a5 a6 a7 a8
  go_wp2_with fail
  refine (sameb_any true _ _ _ _ _ _ _ _ _ _ (w16.alloc (.cells #[.int .u8 5, .int .u8 0, .int .u8 3, .int .u8 0, .int .u8 10, .int .u8 0, .int .u8 0, .int .u8 0] 5)) (HR16.out.alloc (Nat.le_refl _) _) (lit_bytes w16 #[.int .u8 5, .int .u8 0, .int .u8 3, .int .u8 0, .int .u8 10, .int .u8 0, .int .u8 0, .int .u8 0] [5, 0, 3, 0, 10, 0, 0, 0] 8 rfl rfl _) (by decide)).mono ?_
  rintro e w' ⟨rfl, rfl⟩
  have hb17 := below_new w16 (.cells #[.int .u8 5, .int .u8 0, .int .u8 3, .int .u8 0, .int .u8 10, .int .u8 0, .int .u8 0, .int .u8 0] 5)
  generalize w16.alloc (.cells #[.int .u8 5, .int .u8 0, .int .u8 3, .int .u8 0, .int .u8 10, .int .u8 0, .int .u8 0, .int .u8 0] 5) = w17 at hb17 ⊢
  have HP0_17 := Lib.hid (HP0_16.out.trans (hb17.mono HP0_16.out.size))
  have HP1_17 := Lib.hid (HP1_16.out.trans (hb17.mono HP1_16.out.size))
  have HP2_17 := Lib.hid (HP2_16.out.trans (hb17.mono HP2_16.out.size))
  have HP4_17 := Lib.hid (HP4_16.out.trans (hb17.mono HP4_16.out.size))
  have HP5_17 := Lib.hid (HP5_16.out.trans (hb17.mono HP5_16.out.size))
  have HP7_17 := Lib.hid (HP7_16.out.trans (hb17.mono HP7_16.out.size))
  have HP11_17 := Lib.hid (HP11_16.out.trans (hb17.mono HP11_16.out.size))
  have HP13_17 := Lib.hid (HP13_16.out.trans (hb17.mono HP13_16.out.size))
  have HP15_17 := Lib.hid (HP15_16.out.trans (hb17.mono HP15_16.out.size))
  clear hb17
  obtain ⟨ad, rfl, _, hc17⟩ := (HV5.out.now HP5_17.out).byte (show 0 < 21 by omega)
  rw [HB0.out] at hc17
  have hd17 : w17.cell? ad = some (.int .u8 16) := by have h := hc17; simpa [Addr.add] using h
  have HYa := Lib.hid (HX2.out.below HP2_17.out hl2)
  have a0 : w17.cell? ⟨w1.heap.size, 0, none⟩ = some (.int .i64 5) := HYa.out.cell 0
  have a1 : w17.cell? ⟨w1.heap.size, 1, none⟩ = some (.int .i64 0) := HYa.out.cell 1
  have a2 : w17.cell? ⟨w1.heap.size, 2, none⟩ = some (.int .i64 3) := HYa.out.cell 2
  have a3 : w17.cell? ⟨w1.heap.size, 3, none⟩ = some (.int .i64 (-1)) := HYa.out.cell 3
  have a4 : w17.cell? ⟨w1.heap.size, 4, none⟩ = some (.int .i64 10) := HYa.out.cell 4
  have a5 : w17.cell? ⟨w1.heap.size, 5, none⟩ = some (.int .i64 (-1)) := HYa.out.cell 5
  have a6 : w17.cell? ⟨w1.heap.size, 6, none⟩ = some (.int .i64 0) := HYa.out.cell 6
  have a7 : w17.cell? ⟨w1.heap.size, 7, none⟩ = some (.int .i64 (-1)) := HYa.out.cell 7
  have a8 : w17.cell? ⟨w1.heap.size, 8, none⟩ = some (.int .u64 t) := HYa.out.cell 8
  have HYc := Lib.hid (HX7.out.below HP7_17.out hl7)
  have c0 : w17.cell? ⟨w6.heap.size, 0, none⟩ = some (.int .i64 5) := HYc.out.cell 0
  have c1 : w17.cell? ⟨w6.heap.size, 1, none⟩ = some (.int .i64 0) := HYc.out.cell 1
  have c2 : w17.cell? ⟨w6.heap.size, 2, none⟩ = some (.int .i64 3) := HYc.out.cell 2
  have c3 : w17.cell? ⟨w6.heap.size, 3, none⟩ = some (.int .i64 (-1)) := HYc.out.cell 3
  have c4 : w17.cell? ⟨w6.heap.size, 4, none⟩ = some (.int .i64 10) := HYc.out.cell 4
  have c5 : w17.cell? ⟨w6.heap.size, 5, none⟩ = some (.int .i64 (-1)) := HYc.out.cell 5
  have c6 : w17.cell? ⟨w6.heap.size, 6, none⟩ = some (.int .i64 0) := HYc.out.cell 6
  have c7 : w17.cell? ⟨w6.heap.size, 7, none⟩ = some (.int .i64 (-1)) := HYc.out.cell 7
  have c8 : w17.cell? ⟨w6.heap.size, 8, none⟩ = some (.int .u64 t2) := HYc.out.cell 8
  go_wp2_with fail
  with_reducible refine (HChk.out _).mono ?_
  rintro e w18 ⟨rfl, hb18⟩
  have HP0_18 := Lib.hid (HP0_17.out.trans (hb18.mono HP0_17.out.size))
  have HP1_18 := Lib.hid (HP1_17.out.trans (hb18.mono HP1_17.out.size))
  have HP2_18 := Lib.hid (HP2_17.out.trans (hb18.mono HP2_17.out.size))
  have HP4_18 := Lib.hid (HP4_17.out.trans (hb18.mono HP4_17.out.size))
  have HP5_18 := Lib.hid (HP5_17.out.trans (hb18.mono HP5_17.out.size))
  have HP7_18 := Lib.hid (HP7_17.out.trans (hb18.mono HP7_17.out.size))
  have HP11_18 := Lib.hid (HP11_17.out.trans (hb18.mono HP11_17.out.size))
  have HP13_18 := Lib.hid (HP13_17.out.trans (hb18.mono HP13_17.out.size))
  have HP15_18 := Lib.hid (HP15_17.out.trans (hb18.mono HP15_17.out.size))
  clear hb18 hc17 hd17
  clear a0 a1 a2 a3 a4 a5 a6 a7 a8
  clear c0 c1 c2 c3 c4 c5 c6 c7 c8
  have HYb := Lib.hid (HX4.out.below HP4_18.out hl4)
  have b0 : w18.cell? ⟨w2.heap.size, 0, none⟩ = some (.int .i64 5) := HYb.out.cell 0
  have b1 : w18.cell? ⟨w2.heap.size, 1, none⟩ = some (.int .i64 0) := HYb.out.cell 1
  have b2 : w18.cell? ⟨w2.heap.size, 2, none⟩ = some (.int .i64 3) := HYb.out.cell 2
  have b3 : w18.cell? ⟨w2.heap.size, 3, none⟩ = some (.int .i64 (-1)) := HYb.out.cell 3
  have b4 : w18.cell? ⟨w2.heap.size, 4, none⟩ = some (.int .i64 9) := HYb.out.cell 4
  have b5 : w18.cell? ⟨w2.heap.size, 5, none⟩ = some (.int .i64 (-1)) := HYb.out.cell 5
  have b6 : w18.cell? ⟨w2.heap.size, 6, none⟩ = some (.int .i64 0) := HYb.out.cell 6
  have b7 : w18.cell? ⟨w2.heap.size, 7, none⟩ = some (.int .i64 (-1)) := HYb.out.cell 7
  have b8 : w18.cell? ⟨w2.heap.size, 8, none⟩ = some (.int .u64 t) := HYb.out.cell 8
  go_wp2_with fail
  with_reducible refine (HChk2.out _).mono ?_
  rintro e w19 ⟨rfl, hb19⟩
  have HP0_19 := Lib.hid (HP0_18.out.trans (hb19.mono HP0_18.out.size))
  have HP1_19 := Lib.hid (HP1_18.out.trans (hb19.mono HP1_18.out.size))
  have HP2_19 := Lib.hid (HP2_18.out.trans (hb19.mono HP2_18.out.size))
  have HP4_19 := Lib.hid (HP4_18.out.trans (hb19.mono HP4_18.out.size))
  have HP5_19 := Lib.hid (HP5_18.out.trans (hb19.mono HP5_18.out.size))
  have HP7_19 := Lib.hid (HP7_18.out.trans (hb19.mono HP7_18.out.size))
  have HP11_19 := Lib.hid (HP11_18.out.trans (hb19.mono HP11_18.out.size))
  have HP13_19 := Lib.hid (HP13_18.out.trans (hb19.mono HP13_18.out.size))
  have HP15_19 := Lib.hid (HP15_18.out.trans (hb19.mono HP15_18.out.size))
  clear hb19
  clear b0 b1 b2 b3 b4 b5 b6 b7 b8
  have HYe := Lib.hid (HX13.out.below HP13_19.out hl13)
  have e0 : w19.cell? ⟨w11.heap.size, 0, none⟩ = some (.int .i64 5) := HYe.out.cell 0
  have e1 : w19.cell? ⟨w11.heap.size, 1, none⟩ = some (.int .i64 0) := HYe.out.cell 1
  have e2 : w19.cell? ⟨w11.heap.size, 2, none⟩ = some (.int .i64 3) := HYe.out.cell 2
  have e3 : w19.cell? ⟨w11.heap.size, 3, none⟩ = some (.int .i64 (-1)) := HYe.out.cell 3
  have e4 : w19.cell? ⟨w11.heap.size, 4, none⟩ = some (.int .i64 10) := HYe.out.cell 4
  have e5 : w19.cell? ⟨w11.heap.size, 5, none⟩ = some (.int .i64 (-1)) := HYe.out.cell 5
  have e6 : w19.cell? ⟨w11.heap.size, 6, none⟩ = some (.int .i64 0) := HYe.out.cell 6
  have e7 : w19.cell? ⟨w11.heap.size, 7, none⟩ = some (.int .i64 100) := HYe.out.cell 7
  have e8 : w19.cell? ⟨w11.heap.size, 8, none⟩ = some (.int .u64 t) := HYe.out.cell 8
  go_wp2_with fail
  with_reducible refine (HRt.out _).mono ?_
  rintro e w20 ⟨rfl, hb20⟩
  have HP0_20 := Lib.hid (HP0_19.out.trans (hb20.mono HP0_19.out.size))
  have HP1_20 := Lib.hid (HP1_19.out.trans (hb20.mono HP1_19.out.size))
  have HP2_20 := Lib.hid (HP2_19.out.trans (hb20.mono HP2_19.out.size))
  have HP4_20 := Lib.hid (HP4_19.out.trans (hb20.mono HP4_19.out.size))
  have HP5_20 := Lib.hid (HP5_19.out.trans (hb20.mono HP5_19.out.size))
  have HP7_20 := Lib.hid (HP7_19.out.trans (hb20.mono HP7_19.out.size))
  have HP11_20 := Lib.hid (HP11_19.out.trans (hb20.mono HP11_19.out.size))
  have HP13_20 := Lib.hid (HP13_19.out.trans (hb20.mono HP13_19.out.size))
  have HP15_20 := Lib.hid (HP15_19.out.trans (hb20.mono HP15_19.out.size))
  clear hb20
  clear e0 e1 e2 e3 e4 e5 e6 e7 e8
  have HYf := Lib.hid (HX15.out.below HP15_20.out hl15)
  have f0 : w20.cell? ⟨w13.heap.size, 0, none⟩ = some (.int .i64 5) := HYf.out.cell 0
  have f1 : w20.cell? ⟨w13.heap.size, 1, none⟩ = some (.int .i64 0) := HYf.out.cell 1
  have f2 : w20.cell? ⟨w13.heap.size, 2, none⟩ = some (.int .i64 3) := HYf.out.cell 2
  have f3 : w20.cell? ⟨w13.heap.size, 3, none⟩ = some (.int .i64 101) := HYf.out.cell 3
  have f4 : w20.cell? ⟨w13.heap.size, 4, none⟩ = some (.int .i64 10) := HYf.out.cell 4
  have f5 : w20.cell? ⟨w13.heap.size, 5, none⟩ = some (.int .i64 (-1)) := HYf.out.cell 5
  have f6 : w20.cell? ⟨w13.heap.size, 6, none⟩ = some (.int .i64 0) := HYf.out.cell 6
  have f7 : w20.cell? ⟨w13.heap.size, 7, none⟩ = some (.int .i64 100) := HYf.out.cell 7
  have f8 : w20.cell? ⟨w13.heap.size, 8, none⟩ = some (.int .u64 t) := HYf.out.cell 8
  go_wp2_with fail
  with_reducible refine (HRt2.out _).mono ?_
  rintro e w21 ⟨rfl, hb21⟩
  have HP0_21 := Lib.hid (HP0_20.out.trans (hb21.mono HP0_20.out.size))
  have HP1_21 := Lib.hid (HP1_20.out.trans (hb21.mono HP1_20.out.size))
  have HP2_21 := Lib.hid (HP2_20.out.trans (hb21.mono HP2_20.out.size))
  have HP4_21 := Lib.hid (HP4_20.out.trans (hb21.mono HP4_20.out.size))
  have HP5_21 := Lib.hid (HP5_20.out.trans (hb21.mono HP5_20.out.size))
  have HP7_21 := Lib.hid (HP7_20.out.trans (hb21.mono HP7_20.out.size))
  have HP11_21 := Lib.hid (HP11_20.out.trans (hb21.mono HP11_20.out.size))
  have HP13_21 := Lib.hid (HP13_20.out.trans (hb21.mono HP13_20.out.size))
  have HP15_21 := Lib.hid (HP15_20.out.trans (hb21.mono HP15_20.out.size))
  clear hb21
  clear f0 f1 f2 f3 f4 f5 f6 f7 f8
  go_wp2_with fail
  go_ret
  exact ⟨rfl, HP0_21.out⟩
end Go.Proofs.Ythlhphifibldnaa
