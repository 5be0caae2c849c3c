/-
  Encode of chapter 25 and of its reference, walked.
-/
import Derived.Test.YthlhphifibldnaaCodecV
import Derived.Test.YthlhphifibldnaaMat
import Derived.Test.YthlhphifibldnaaMedN
import Derived.Test.YthlhphifibldnaaMedB
import Derived.Test.YthlhphifibldnaaStr
namespace Go.Proofs.Ythlhphifibldnaa
open Go.RowKit

/-- the byte with number k of a tag, the lowest one is 0 -/
def beB (T k : Nat) : UInt8 := UInt8.ofNat (T / 2 ^ (8 * k))
def beL (T : Nat) : Nat → List UInt8
  | 0 => []
  | k + 1 => beL T k ++ [beB T (7 - k)]
theorem beL_len (T : Nat) : ∀ k, (beL T k).length = k
  | 0 => rfl
  | k + 1 => by simp [beL, beL_len T k]
theorem beL_8 (T : Nat) : beL T 8 = be8 T := by
  simp [beL, beB, be8]
theorem beB_form (T k : Nat) (e : Nat) (he : e = 8 * k) : Value.int .u8 (((T : Int) / 2 ^ e) % 256) = B8 (beB T k) := by
  subst he
  have h : ((T : Int) / 2 ^ (8 * k)) % 256 = (((T / 2 ^ (8 * k)) % 256 : Nat) : Int) := by
    rw [Int.natCast_emod, Int.natCast_ediv, Int.natCast_pow]
    rfl
  rw [h, B8_of _ (Nat.mod_lt _ (by omega))]
  congr 1
  apply toNat_ext
  rw [beB, UInt8.toNat_ofNat', UInt8.toNat_ofNat']
  omega

set_option maxRecDepth 100000 in
set_option maxHeartbeats 4000000 in
theorem encode_any (m : Med) (w : World) (T : Nat) (hT : m.tag = (T : Int)) (hT2 : T < 18446744073709551616) (h : RangeM m) :
    Calls Try.prog 22 #[.agg #[.int .i64 m.ser, .int .i64 m.cnt, .int .i64 m.prd, .int .i64 m.fst, .int .i64 m.lft, .int .i64 m.tdy, .int .i64 m.lif, .int .i64 m.at_, .int .u64 m.tag]] w fun e w' => ∃ v, e = .returned v ∧ OwnB w' w.heap.size v (encN m) ∧ Below w.heap.size w w' := by
  have HBody : Hid (∀ W : World, Calls Try.prog 19 #[.agg #[.int .i64 m.ser, .int .i64 m.cnt, .int .i64 m.prd, .int .i64 m.fst, .int .i64 m.lft, .int .i64 m.tdy, .int .i64 m.lif, .int .i64 m.at_, .int .u64 m.tag]] W fun e w' => ∃ v, e = .returned v ∧ OwnB w' W.heap.size v (bodyN m) ∧ Below W.heap.size W w') := fun W => body_any m W h
  have HLen : Hid ((bodyN m).length ≤ 80) := bodyN_len _
  have HEnc : Hid (encN m = frameN (bodyN m ++ be8 T)) := by show _ = _; rw [encN, hT]; rfl
  generalize bodyN m = bl at *
  generalize encN m = en at *
  clear h
  obtain ⟨ser, cnt, prd, fst, lft, tdy, lif, at_, tag⟩ := m
  simp only at hT
  subst hT
  go_enter Try.func22, Try.ntmps22
  go_wp2_with fail
  have HBw0 := (Blk.new w 24 #[.int .i64 ser, .int .i64 cnt, .int .i64 prd, .int .i64 fst, .int .i64 lft, .int .i64 tdy, .int .i64 lif, .int .i64 at_, .int .u64 (T : Int)])
  have HLw0 := (below_new w (.cells #[.int .i64 ser, .int .i64 cnt, .int .i64 prd, .int .i64 fst, .int .i64 lft, .int .i64 tdy, .int .i64 lif, .int .i64 at_, .int .u64 (T : Int)] 24))
  have hsw0 : (w.alloc (.cells #[.int .i64 ser, .int .i64 cnt, .int .i64 prd, .int .i64 fst, .int .i64 lft, .int .i64 tdy, .int .i64 lif, .int .i64 at_, .int .u64 (T : Int)] 24)).heap.size = w.heap.size + 1 := by simp
  generalize w.alloc (.cells #[.int .i64 ser, .int .i64 cnt, .int .i64 prd, .int .i64 fst, .int .i64 lft, .int .i64 tdy, .int .i64 lif, .int .i64 at_, .int .u64 (T : Int)] 24) = w0 at HBw0 HLw0 hsw0 ⊢
  replace HBw0 := Lib.hid HBw0
  replace HLw0 := Lib.hid HLw0
  have hlw0 : w.heap.size < w0.heap.size := by omega
  replace hsw0 := Lib.hid hsw0
  have c0 : w0.cell? ⟨w.heap.size, 0, none⟩ = some (.int .i64 ser) := HBw0.out.cell 0
  have c1 : w0.cell? ⟨w.heap.size, 1, none⟩ = some (.int .i64 cnt) := HBw0.out.cell 1
  have c2 : w0.cell? ⟨w.heap.size, 2, none⟩ = some (.int .i64 prd) := HBw0.out.cell 2
  have c3 : w0.cell? ⟨w.heap.size, 3, none⟩ = some (.int .i64 fst) := HBw0.out.cell 3
  have c4 : w0.cell? ⟨w.heap.size, 4, none⟩ = some (.int .i64 lft) := HBw0.out.cell 4
  have c5 : w0.cell? ⟨w.heap.size, 5, none⟩ = some (.int .i64 tdy) := HBw0.out.cell 5
  have c6 : w0.cell? ⟨w.heap.size, 6, none⟩ = some (.int .i64 lif) := HBw0.out.cell 6
  have c7 : w0.cell? ⟨w.heap.size, 7, none⟩ = some (.int .i64 at_) := HBw0.out.cell 7
  have c8 : w0.cell? ⟨w.heap.size, 8, none⟩ = some (.int .u64 (T : Int)) := HBw0.out.cell 8
  go_wp2_with fail
  with_reducible refine (HBody.out _).mono ?_
  rintro e w1 ⟨v1, rfl, hown1, hb1⟩
  have hl1 : w.heap.size < w1.heap.size := Nat.lt_of_lt_of_le hlw0 hb1.size
  have HB1 := Lib.hid (HLw0.out.trans (hb1.mono HLw0.out.size))
  have HBx1 := Lib.hid (HBw0.out.below hb1 hlw0)
  have HO1 := Lib.hid hown1
  have hq1 : w0.heap.size ≤ w1.heap.size := hb1.size
  clear hown1 hb1 c0 c1 c2 c3 c4 c5 c6 c7 c8
  have HLn := Lib.hid HO1.out.1
  go_wp2_with fail
  go_loopw [3, 4] (fun v i wr => ∃ k : Nat, k ≤ 8 ∧ i = .int .i64 (7 - (k : Int)) ∧ OwnB wr w0.heap.size v (bl ++ beL T k) ∧ w0.heap.size ≤ wr.heap.size ∧ Below w.heap.size w wr ∧ Blk wr w.heap.size 24 #[.int .i64 ser, .int .i64 cnt, .int .i64 prd, .int .i64 fst, .int .i64 lft, .int .i64 tdy, .int .i64 lif, .int .i64 at_, .int .u64 (T : Int)]) (fun _ i _ => (intOf i + 1).toNat)
  case atStart => exact ⟨0, by omega, rfl, by rw [beL, List.append_nil]; exact HO1.out, hq1, HB1.out, HBx1.out⟩
  case round =>
    obtain ⟨k, hk, rfl, hown, hqr, hbr, hblk⟩ := hrel
    obtain ⟨wo, rfl⟩ : ∃ wo : World, wo = wr := ⟨_, rfl⟩
    have HB := Lib.hid hbr
    have HK := Lib.hid hblk
    have hlo : w.heap.size < wo.heap.size := hblk.lt
    obtain ⟨A, n, c, rfl, HN, hc1, hc2, hr⟩ := hown.nam
    have hn : n ≤ 88 := by rw [← HN.out, List.length_append, beL_len]; have := HLen.out; omega
    have HO := Lib.hid (hown.row HN.out)
    have HRd := Lib.hid hr
    clear hown hbr hr hc1 hblk
    by_cases hlt : k < 8
    · have c8 : wo.cell? ⟨w.heap.size, 8, none⟩ = some (.int .u64 (T : Int)) := HK.out.cell 8
      obtain ⟨j, hj⟩ : ∃ j : Nat, 7 - (k : Int) = (j : Int) := ⟨7 - k, by omega⟩
      rw [hj]
      have hj7 : j ≤ 7 := by omega
      have hjk : j = 7 - k := by omega
      have HJ := Lib.hid hj
      have HJK := Lib.hid hjk
      clear hj hjk
      go_wp2_with
        (at_builtin
         refine wpList_app_lit ei_byte rfl (.tmp 11) (.tmp 18) rfl w0.heap.size (.slice A n c) n ((bl ++ beL T k).map B8) rfl HO.out 1 rfl rfl (by simp [Value.oneCell']) (by simp only [maxLen]; omega) (by omega) (by omega) ?_
         intro v4 w4 hown4 hb4 hg4 hat4
         have HO4 := Lib.hid hown4
         have HB4 := Lib.hid (HB.out.trans (hb4.mono (Nat.le_of_lt hlw0)))
         have HK4 := Lib.hid (HK.out.below hb4 hlw0)
         have hq4 : w0.heap.size ≤ w4.heap.size := Nat.le_trans hqr hb4.size
         clear hown4 hb4 hg4 hat4)
      go_roundw
      case rel =>
        have hF := beB_form T j (8 * j) rfl
        have hJ := HJK.out
        subst hJ
        refine ⟨k + 1, by omega, ?_, ?_, hq4, HB4.out, HK4.out⟩
        · have := HJ.out
          congr 1
          omega
        · refine OwnB.mk' HO4.out ?_ ?_
          · rw [List.length_append, beL_len, ← HN.out, List.length_append, beL_len]
            omega
          · show _ ++ [_] = _
            rw [hF, beL, ← List.append_assoc]
            simp
      case measure => simp [intOf]
    · obtain rfl : k = 8 := by omega
      go_wp2_with fail
      with_reducible refine (frame_any A n c _ _ HRd.out (by omega)).mono ?_
      rintro e w5 ⟨v5, rfl, hown5, hb5⟩
      have HO5 := Lib.hid (hown5.mono (Nat.le_of_lt hlo))
      have HB5 := Lib.hid (HB.out.trans (hb5.mono (Nat.le_of_lt hlo)))
      clear hown5 hb5
      go_wp2_with fail
      go_ret
      refine ⟨_, rfl, ?_, HB5.out⟩
      have h := HO5.out
      rw [beL_8, ← HEnc.out] at h
      exact h

set_option maxRecDepth 100000 in
set_option maxHeartbeats 4000000 in
theorem rencode_any (m : Med) (w : World) (T : Nat) (hT : m.tag = (T : Int)) (hT2 : T < 18446744073709551616) (h : RangeM m) :
    Calls Try.prog 23 #[.agg #[.int .i64 m.ser, .int .i64 m.cnt, .int .i64 m.prd, .int .i64 m.fst, .int .i64 m.lft, .int .i64 m.tdy, .int .i64 m.lif, .int .i64 m.at_, .int .u64 m.tag]] w fun e w' => ∃ v, e = .returned v ∧ OwnB w' w.heap.size v (encN m) ∧ Below w.heap.size w w' := by
  have HBody : Hid (∀ W : World, Calls Try.prog 20 #[.agg #[.int .i64 m.ser, .int .i64 m.cnt, .int .i64 m.prd, .int .i64 m.fst, .int .i64 m.lft, .int .i64 m.tdy, .int .i64 m.lif, .int .i64 m.at_, .int .u64 m.tag]] W fun e w' => ∃ v, e = .returned v ∧ OwnB w' W.heap.size v (bodyN m) ∧ Below W.heap.size W w') := fun W => rbody_any m W h
  have HLen : Hid ((bodyN m).length ≤ 80) := bodyN_len _
  have HEnc : Hid (encN m = frameN (bodyN m ++ be8 T)) := by show _ = _; rw [encN, hT]; rfl
  generalize bodyN m = bl at *
  generalize encN m = en at *
  clear h
  obtain ⟨ser, cnt, prd, fst, lft, tdy, lif, at_, tag⟩ := m
  simp only at hT
  subst hT
  go_enter Try.func23, Try.ntmps23
  go_wp2_with fail
  have HBw0 := (Blk.new w 24 #[.int .i64 ser, .int .i64 cnt, .int .i64 prd, .int .i64 fst, .int .i64 lft, .int .i64 tdy, .int .i64 lif, .int .i64 at_, .int .u64 (T : Int)])
  have HLw0 := (below_new w (.cells #[.int .i64 ser, .int .i64 cnt, .int .i64 prd, .int .i64 fst, .int .i64 lft, .int .i64 tdy, .int .i64 lif, .int .i64 at_, .int .u64 (T : Int)] 24))
  have hsw0 : (w.alloc (.cells #[.int .i64 ser, .int .i64 cnt, .int .i64 prd, .int .i64 fst, .int .i64 lft, .int .i64 tdy, .int .i64 lif, .int .i64 at_, .int .u64 (T : Int)] 24)).heap.size = w.heap.size + 1 := by simp
  generalize w.alloc (.cells #[.int .i64 ser, .int .i64 cnt, .int .i64 prd, .int .i64 fst, .int .i64 lft, .int .i64 tdy, .int .i64 lif, .int .i64 at_, .int .u64 (T : Int)] 24) = w0 at HBw0 HLw0 hsw0 ⊢
  replace HBw0 := Lib.hid HBw0
  replace HLw0 := Lib.hid HLw0
  have hlw0 : w.heap.size < w0.heap.size := by omega
  replace hsw0 := Lib.hid hsw0
  have c0 : w0.cell? ⟨w.heap.size, 0, none⟩ = some (.int .i64 ser) := HBw0.out.cell 0
  have c1 : w0.cell? ⟨w.heap.size, 1, none⟩ = some (.int .i64 cnt) := HBw0.out.cell 1
  have c2 : w0.cell? ⟨w.heap.size, 2, none⟩ = some (.int .i64 prd) := HBw0.out.cell 2
  have c3 : w0.cell? ⟨w.heap.size, 3, none⟩ = some (.int .i64 fst) := HBw0.out.cell 3
  have c4 : w0.cell? ⟨w.heap.size, 4, none⟩ = some (.int .i64 lft) := HBw0.out.cell 4
  have c5 : w0.cell? ⟨w.heap.size, 5, none⟩ = some (.int .i64 tdy) := HBw0.out.cell 5
  have c6 : w0.cell? ⟨w.heap.size, 6, none⟩ = some (.int .i64 lif) := HBw0.out.cell 6
  have c7 : w0.cell? ⟨w.heap.size, 7, none⟩ = some (.int .i64 at_) := HBw0.out.cell 7
  have c8 : w0.cell? ⟨w.heap.size, 8, none⟩ = some (.int .u64 (T : Int)) := HBw0.out.cell 8
  go_wp2_with fail
  with_reducible refine (HBody.out _).mono ?_
  rintro e w1 ⟨v1, rfl, hown1, hb1⟩
  have hl1 : w.heap.size < w1.heap.size := Nat.lt_of_lt_of_le hlw0 hb1.size
  have HB1 := Lib.hid (HLw0.out.trans (hb1.mono HLw0.out.size))
  have HBx1 := Lib.hid (HBw0.out.below hb1 hlw0)
  have HO1 := Lib.hid hown1
  have hq1 : w0.heap.size ≤ w1.heap.size := hb1.size
  clear hown1 hb1 c0 c1 c2 c3 c4 c5 c6 c7 c8
  have HLn := Lib.hid HO1.out.1
  go_wp2_with fail
  go_loopw [3, 4] (fun v i wr => ∃ k : Nat, k ≤ 8 ∧ i = .int .i64 (7 - (k : Int)) ∧ OwnB wr w0.heap.size v (bl ++ beL T k) ∧ w0.heap.size ≤ wr.heap.size ∧ Below w.heap.size w wr ∧ Blk wr w.heap.size 24 #[.int .i64 ser, .int .i64 cnt, .int .i64 prd, .int .i64 fst, .int .i64 lft, .int .i64 tdy, .int .i64 lif, .int .i64 at_, .int .u64 (T : Int)]) (fun _ i _ => (intOf i + 1).toNat)
  case atStart => exact ⟨0, by omega, rfl, by rw [beL, List.append_nil]; exact HO1.out, hq1, HB1.out, HBx1.out⟩
  case round =>
    obtain ⟨k, hk, rfl, hown, hqr, hbr, hblk⟩ := hrel
    obtain ⟨wo, rfl⟩ : ∃ wo : World, wo = wr := ⟨_, rfl⟩
    have HB := Lib.hid hbr
    have HK := Lib.hid hblk
    have hlo : w.heap.size < wo.heap.size := hblk.lt
    obtain ⟨A, n, c, rfl, HN, hc1, hc2, hr⟩ := hown.nam
    have hn : n ≤ 88 := by rw [← HN.out, List.length_append, beL_len]; have := HLen.out; omega
    have HO := Lib.hid (hown.row HN.out)
    have HRd := Lib.hid hr
    clear hown hbr hr hc1 hblk
    by_cases hlt : k < 8
    · have c8 : wo.cell? ⟨w.heap.size, 8, none⟩ = some (.int .u64 (T : Int)) := HK.out.cell 8
      obtain ⟨j, hj⟩ : ∃ j : Nat, 7 - (k : Int) = (j : Int) := ⟨7 - k, by omega⟩
      rw [hj]
      have hj7 : j ≤ 7 := by omega
      have hjk : j = 7 - k := by omega
      have HJ := Lib.hid hj
      have HJK := Lib.hid hjk
      clear hj hjk
      go_wp2_with
        (at_builtin
         refine wpList_app_lit ei_byte rfl (.tmp 11) (.tmp 18) rfl w0.heap.size (.slice A n c) n ((bl ++ beL T k).map B8) rfl HO.out 1 rfl rfl (by simp [Value.oneCell']) (by simp only [maxLen]; omega) (by omega) (by omega) ?_
         intro v4 w4 hown4 hb4 hg4 hat4
         have HO4 := Lib.hid hown4
         have HB4 := Lib.hid (HB.out.trans (hb4.mono (Nat.le_of_lt hlw0)))
         have HK4 := Lib.hid (HK.out.below hb4 hlw0)
         have hq4 : w0.heap.size ≤ w4.heap.size := Nat.le_trans hqr hb4.size
         clear hown4 hb4 hg4 hat4)
      go_roundw
      case rel =>
        have hF := beB_form T j (8 * j) rfl
        have hJ := HJK.out
        subst hJ
        refine ⟨k + 1, by omega, ?_, ?_, hq4, HB4.out, HK4.out⟩
        · have := HJ.out
          congr 1
          omega
        · refine OwnB.mk' HO4.out ?_ ?_
          · rw [List.length_append, beL_len, ← HN.out, List.length_append, beL_len]
            omega
          · show _ ++ [_] = _
            rw [hF, beL, ← List.append_assoc]
            simp
      case measure => simp [intOf]
    · obtain rfl : k = 8 := by omega
      go_wp2_with fail
      with_reducible refine (rframe_any A n c _ _ HRd.out (by omega)).mono ?_
      rintro e w5 ⟨v5, rfl, hown5, hb5⟩
      have HO5 := Lib.hid (hown5.mono (Nat.le_of_lt hlo))
      have HB5 := Lib.hid (HB.out.trans (hb5.mono (Nat.le_of_lt hlo)))
      clear hown5 hb5
      go_wp2_with fail
      go_ret
      refine ⟨_, rfl, ?_, HB5.out⟩
      have h := HO5.out
      rw [beL_8, ← HEnc.out] at h
      exact h

end Go.Proofs.Ythlhphifibldnaa
