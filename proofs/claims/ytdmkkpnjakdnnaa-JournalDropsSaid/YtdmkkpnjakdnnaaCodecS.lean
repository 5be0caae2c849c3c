/-
  The checksum of chapter 3 and of its reference, walked.
-/
import Derived.Test.YtdmkkpnjakdnnaaCodecP
import Derived.Test.YtdmkkpnjakdnnaaBlk
import Derived.Laws.Tables
import Derived.Laws.Rows
namespace Go.Proofs.Ytdmkkpnjakdnnaa
open Go.RowKit

theorem and1 (R : Nat) (h : R < 4294967296) : bits .and .u32 (R : Int) 1 = ((R % 2 : Nat) : Int) := by
  have h1 : (BitVec.ofInt 32 1).toNat = 2 ^ 1 - 1 := by decide
  have key : (BitVec.ofInt 32 (R : Int) &&& BitVec.ofInt 32 1).toNat = R % 2 := by
    rw [BitVec.toNat_and, BitVec.toNat_ofInt, h1, Nat.and_two_pow_sub_one_eq_mod]
    omega
  show IntKind.u32.wrap ((BitVec.ofInt 32 (R : Int) &&& BitVec.ofInt 32 1).toNat : Nat) = _
  rw [key, IntKind.wrap_u32]
  omega
theorem and15 (R : Nat) (h : R < 4294967296) : bits .and .u32 (R : Int) 15 = ((R % 16 : Nat) : Int) := by
  have h1 : (BitVec.ofInt 32 15).toNat = 2 ^ 4 - 1 := by decide
  have key : (BitVec.ofInt 32 (R : Int) &&& BitVec.ofInt 32 15).toNat = R % 16 := by
    rw [BitVec.toNat_and, BitVec.toNat_ofInt, h1, Nat.and_two_pow_sub_one_eq_mod]
    omega
  show IntKind.u32.wrap ((BitVec.ofInt 32 (R : Int) &&& BitVec.ofInt 32 15).toNat : Nat) = _
  rw [key, IntKind.wrap_u32]
  omega
theorem xor32_form (a b : Nat) (c : Int) (hc : c = (b : Int)) (ha : a < 4294967296) (hb : b < 4294967296) : bits .xor .u32 (a : Int) c = ((a ^^^ b : Nat) : Int) := by
  subst hc
  exact u32_xor_nat a b ha hb
theorem bit_odd (R : Nat) (h : R < 4294967296) (h1 : R % 2 = 1) : bits .xor .u32 ((R : Int) / 2) 2197175160 = ((bitN R : Nat) : Int) := by
  unfold bitN
  rw [if_pos h1, show ((R : Int) / 2) = ((R / 2 : Nat) : Int) by omega]
  exact xor32_form _ 2197175160 _ rfl (by omega) (by omega)
theorem bit_even (R : Nat) (h1 : ¬ R % 2 = 1) : (R : Int) / 2 = ((bitN R : Nat) : Int) := by
  unfold bitN
  rw [if_neg h1]
  omega
theorem crc_next (l : List UInt8) (k : Nat) (h : k < l.length) : crcN (l.take (k + 1)) = bitI 8 (crcN (l.take k) ^^^ (l.getD k 0).toNat) := by
  have e : l.getD k 0 = l[k] := by simp [List.getElem?_eq_getElem h]
  rw [List.take_succ_eq_append_getElem h, crcN_snoc, e]

set_option maxRecDepth 100000 in
set_option maxHeartbeats 400000 in
theorem rsum_any (A : Option Addr) (n c B : Nat) (l : List UInt8) (s : Nat) (w : World) (hr : Bytes w B A n l) (hn : n ≤ 1000000000) (hs : sumN l = s) :
    Calls Try.prog 49 #[.slice A n c] w fun e w' => e = .returned (.int .u32 (s : Int)) ∧ w = w' := by
  have HL := Lib.hid hr.blen
  have HR := Lib.hid hr
  have HS := Lib.hid hs
  clear hr hs
  go_enter Try.func49, Try.ntmps49
  go_wp2_with fail
  go_loop [3, 4] (fun r i => ∃ k : Nat, k ≤ n ∧ i = .int .i64 k ∧ r = .int .u32 ((crcN (l.take k) : Nat) : Int)) (fun _ i => n - (intOf i).toNat)
  case atStart => exact ⟨0, by omega, rfl, rfl⟩
  case round =>
    obtain ⟨k, hk, rfl, rfl⟩ := hrel
    by_cases hlt : k < n
    · obtain ⟨ad, rfl, _, hc⟩ := HR.out.byte hlt
      have HN := Lib.hid (crc_next l k (by rw [HL.out]; exact hlt))
      have hR := crcN_lt (l.take k)
      have hx := UInt8.toNat_lt (l.getD k 0)
      obtain ⟨R, hRe⟩ : ∃ R, crcN (l.take k) = R := ⟨_, rfl⟩
      obtain ⟨x, hxe⟩ : ∃ x, (l.getD k 0).toNat = x := ⟨_, rfl⟩
      rw [hRe] at hR HN ⊢
      rw [hxe] at hx HN hc
      have HRe := Lib.hid hRe
      have HXe := Lib.hid hxe
      have hx2 := xor32_form R x _ rfl hR (by omega)
      have hX := xor32 R x hR (by omega)
      obtain ⟨X, hXe⟩ : ∃ X, R ^^^ x = X := ⟨_, rfl⟩
      rw [hXe] at hx2 hX HN
      have HXX := Lib.hid hXe
      clear hRe hxe hXe
      go_wp2_with fail
      go_loop [3, 5] (fun r j => ∃ m : Nat, m ≤ 8 ∧ j = .int .i64 m ∧ r = .int .u32 ((bitI m X : Nat) : Int)) (fun _ j => 8 - (intOf j).toNat)
      case atStart => exact ⟨0, by omega, rfl, by rfl⟩
      case round =>
        obtain ⟨m, hm, rfl, rfl⟩ := hrel
        by_cases hm8 : m < 8
        · have hY := bitI_lt m X hX
          have HB : Hid (bitI (m + 1) X = bitN (bitI m X)) := rfl
          obtain ⟨Y, hYe⟩ : ∃ Y, bitI m X = Y := ⟨_, rfl⟩
          rw [hYe] at hY HB ⊢
          have HYe := Lib.hid hYe
          have ha := and1 Y hY
          clear hYe
          by_cases h1 : Y % 2 = 1
          · have ho := bit_odd Y hY h1
            rw [h1] at ha
            have H1 := Lib.hid h1
            clear h1
            go_wp2_with fail
            go_round
            case rel => exact ⟨m + 1, by omega, by go_num, by rw [HB.out]⟩
            case measure => simp [intOf]; omega
          · have ho := bit_even Y h1
            rw [show Y % 2 = 0 by omega] at ha
            have H1 := Lib.hid h1
            have HE := Lib.hid ho
            clear h1 ho
            go_wp2_with fail
            go_round
            case rel => exact ⟨m + 1, by omega, by go_num, by rw [HB.out, ← HE.out]⟩
            case measure => simp [intOf]; omega
        · obtain rfl : m = 8 := by omega
          go_wp2_with fail
          go_round
          case rel => exact ⟨k + 1, by omega, by go_num, by rw [HN.out]⟩
          case measure => simp [intOf]; omega
    · have hR := crcN_lt (l.take k)
      have HZ : Hid (bits .xor .u32 ((crcN (l.take k) : Nat) : Int) 4294967295 = (s : Int)) := by
        show _ = _
        rw [xor32_form _ 4294967295 4294967295 rfl hR (by omega), ← HS.out, List.take_of_length_le (by rw [HL.out]; omega)]
        rfl
      go_wp2_with fail
      go_ret
      exact ⟨ret_i HZ.out, rfl⟩
/-- the table of four bits, its first k entries -/
def tabL (k : Nat) : List Value := (List.range 16).map fun i => if i < k then Value.int .u32 ((bitI 4 i : Nat) : Int) else .int .u32 0
theorem tabL_at (k i : Nat) (h : i < 16) : (tabL k).toArray[i]? = some (if i < k then Value.int .u32 ((bitI 4 i : Nat) : Int) else .int .u32 0) := by simp [tabL, h]
theorem tabL_set (k : Nat) (h : k < 16) : (tabL k).toArray.setIfInBounds k (.int .u32 ((bitI 4 k : Nat) : Int)) = (tabL (k + 1)).toArray := by
  apply Array.ext_getElem?
  intro i
  rw [Array.getElem?_setIfInBounds]
  by_cases hi : i < 16
  · rw [tabL_at _ _ hi, tabL_at _ _ hi]
    by_cases e : k = i
    · subst e
      simp [tabL, hi]
    · rw [if_neg e]
      congr 1
      by_cases h2 : i < k
      · rw [if_pos h2, if_pos (by omega)]
      · rw [if_neg h2, if_neg (by omega)]
  · have e1 : ∀ k, (tabL k).toArray[i]? = none := fun k => by simp [tabL]; omega
    rw [e1, e1]
    split
    · rename_i h1; omega
    · rfl

set_option maxRecDepth 100000 in
set_option maxHeartbeats 400000 in
theorem table_any (w : World) :
    Calls Try.prog 55 #[] w fun e w' => e = .returned (.agg (tabL 16).toArray) ∧ Below w.heap.size w w' := by
  have hz : (tabL 0).toArray = #[Value.int .u32 0, Value.int .u32 0, Value.int .u32 0, Value.int .u32 0, Value.int .u32 0, Value.int .u32 0, Value.int .u32 0, Value.int .u32 0, Value.int .u32 0, Value.int .u32 0, Value.int .u32 0, Value.int .u32 0, Value.int .u32 0, Value.int .u32 0, Value.int .u32 0, Value.int .u32 0] := by kernel_rfl
  have HZ := Lib.hid hz
  clear hz
  go_enter Try.func55, Try.ntmps55
  go_wp2_with fail
  go_loopw [5] (fun i wr => ∃ k : Nat, k ≤ 16 ∧ i = .int .i64 k ∧ Blk wr (w.heap.size + 1) 76 (tabL k).toArray ∧ Blk wr w.heap.size 76 (tabL 0).toArray ∧ Below w.heap.size w wr) (fun i _ => 16 - (intOf i).toNat)
  case atStart =>
    refine ⟨0, by omega, rfl, ?_, ?_, ((Below.refl _ _).alloc (Nat.le_refl _) _).alloc (by simp) _⟩
    · rw [HZ.out]
      have h := Blk.new (w.alloc (.cells #[Value.int .u32 0, Value.int .u32 0, Value.int .u32 0, Value.int .u32 0, Value.int .u32 0, Value.int .u32 0, Value.int .u32 0, Value.int .u32 0, Value.int .u32 0, Value.int .u32 0, Value.int .u32 0, Value.int .u32 0, Value.int .u32 0, Value.int .u32 0, Value.int .u32 0, Value.int .u32 0] 76)) 76 #[Value.int .u32 0, Value.int .u32 0, Value.int .u32 0, Value.int .u32 0, Value.int .u32 0, Value.int .u32 0, Value.int .u32 0, Value.int .u32 0, Value.int .u32 0, Value.int .u32 0, Value.int .u32 0, Value.int .u32 0, Value.int .u32 0, Value.int .u32 0, Value.int .u32 0, Value.int .u32 0]
      have e : ∀ o, (w.alloc o).heap.size = w.heap.size + 1 := fun o => by simp
      rwa [e] at h
    · rw [HZ.out]
      exact (Blk.new w _ _).alloc _
  case round =>
    obtain ⟨k, hk, rfl, hb1, hb0, hbr⟩ := hrel
    obtain ⟨wo, rfl⟩ : ∃ wo : World, wo = wr := ⟨_, rfl⟩
    have HB1 := Lib.hid hb1
    have HB0 := Lib.hid hb0
    have HBR := Lib.hid hbr
    by_cases hlt : k < 16
    · have hc : wo.cell? ⟨w.heap.size + 1, k, none⟩ = some (if k < k then Value.int .u32 ((bitI 4 k : Nat) : Int) else .int .u32 0) := by rw [hb1.cell, tabL_at _ _ hlt]
      rw [if_neg (by omega)] at hc
      have hf : wo.frozen? ⟨w.heap.size + 1, k, none⟩ = false := hb1.frozen k
      clear hb1 hb0 hbr
      go_wp2_with fail
      go_loop [3, 10] (fun r j => ∃ m : Nat, m ≤ 4 ∧ j = .int .i64 m ∧ r = .int .u32 ((bitI m k : Nat) : Int)) (fun _ j => 4 - (intOf j).toNat)
      case atStart => exact ⟨0, by omega, rfl, by first | rfl | go_num⟩
      case round =>
        obtain ⟨m, hm, rfl, rfl⟩ := hrel
        by_cases hm8 : m < 4
        · have hY := bitI_lt m k (by omega)
          have HB : Hid (bitI (m + 1) k = bitN (bitI m k)) := rfl
          obtain ⟨Y, hYe⟩ : ∃ Y, bitI m k = Y := ⟨_, rfl⟩
          rw [hYe] at hY HB ⊢
          have HYe := Lib.hid hYe
          have ha := and1 Y hY
          clear hYe
          by_cases h1 : Y % 2 = 1
          · have ho := bit_odd Y hY h1
            rw [h1] at ha
            have H1 := Lib.hid h1
            clear h1
            go_wp2_with fail
            go_round
            case rel => exact ⟨m + 1, by omega, by go_num, by rw [HB.out]⟩
            case measure => simp [intOf]; omega
          · have ho := bit_even Y h1
            rw [show Y % 2 = 0 by omega] at ha
            have H1 := Lib.hid h1
            have HE := Lib.hid ho
            clear h1 ho
            go_wp2_with fail
            go_round
            case rel => exact ⟨m + 1, by omega, by go_num, by rw [HB.out, ← HE.out]⟩
            case measure => simp [intOf]; omega
        · obtain rfl : m = 4 := by omega
          go_wp2_with fail
          go_roundw
          case rel =>
            refine ⟨k + 1, by omega, by go_num, ?_, HB0.out.far (by simp) _, HBR.out.setCell (by simp) _⟩
            rw [← tabL_set k hlt]
            exact HB1.out.set_ k _
          case measure => simp [intOf]; omega
    · obtain rfl : k = 16 := by omega
      clear hb1 hb0 hbr
      go_wp2_with
        (first
         | (refine wpList_load_row rfl 76 (.tmp 1) rfl (w.heap.size + 1) rfl 76 (tabL 16).toArray (0, 0) _ HB1.out Try.underlying76 rfl (by kernel_rfl) ?_)
         | (refine wpList_store_row rfl 76 (.tmp 0) (.tmp 25) rfl w.heap.size (tabL 16).toArray rfl rfl 76 (tabL 0).toArray HB0.out (by kernel_rfl) rfl (by decide +kernel) ?_))
      refine bodyPost_ret (v := .agg (tabL 16).toArray) (results_cell_row rfl _ _ w.heap.size 76 (tabL 16).toArray (0, 0) _ rfl (setRow_heap wo w.heap.size _ _ _ _ HB0.out) Try.underlying76 rfl (by kernel_rfl)) rfl ⟨rfl, ?_⟩
      refine HBR.out.trans ⟨rfl, rfl, rfl, by simp, fun j hj => setRow_other _ _ _ _ (by omega)⟩
theorem nib_form (R : Nat) (h : R < 4294967296) : bits .xor .u32 ((R : Int) / 16) ((bitI 4 (R % 16) : Nat) : Int) = ((R / 16 ^^^ bitI 4 (R % 16) : Nat) : Int) := by
  rw [show ((R : Int) / 16) = ((R / 16 : Nat) : Int) by omega]
  exact u32_xor_nat _ _ (by omega) (bitI_lt 4 _ (by omega))
theorem below_setRow' {B : Nat} {w0 w : World} (hb : Below B w0 w) {g : Nat} (hg : B ≤ g) (cs : Array Value) : Below B w0 (w.setRow g cs) :=
  hb.trans ⟨rfl, rfl, rfl, by simp, fun j hj => setRow_other _ _ _ _ (by omega)⟩

set_option maxRecDepth 100000 in
set_option maxHeartbeats 400000 in
theorem sum_any (A : Option Addr) (n c : Nat) (l : List UInt8) (s : Nat) (w : World) (hr : Bytes w w.heap.size A n l) (hn : n ≤ 1000000000) (hs : sumN l = s) :
    Calls Try.prog 46 #[.slice A n c] w fun e w' => e = .returned (.int .u32 (s : Int)) ∧ Below w.heap.size w w' := by
  have HL := Lib.hid hr.blen
  have HR := Lib.hid hr
  have HS := Lib.hid hs
  have hz : (tabL 0).toArray = #[Value.int .u32 0, Value.int .u32 0, Value.int .u32 0, Value.int .u32 0, Value.int .u32 0, Value.int .u32 0, Value.int .u32 0, Value.int .u32 0, Value.int .u32 0, Value.int .u32 0, Value.int .u32 0, Value.int .u32 0, Value.int .u32 0, Value.int .u32 0, Value.int .u32 0, Value.int .u32 0] := by kernel_rfl
  have HZ := Lib.hid hz
  clear hr hs hz
  go_enter Try.func46, Try.ntmps46
  go_wp2_with fail
  with_reducible refine (table_any _).mono ?_
  rintro e w1 ⟨rfl, hb1⟩
  have HB1 := Lib.hid hb1
  have HR1 := Lib.hid (HR.out.now hb1)
  have hs1 := hb1.size
  clear hb1
  go_wp2_with
    (refine wpList_store_row rfl 76 (.tmp 3) (.tmp 7) rfl w1.heap.size (tabL 16).toArray rfl rfl 76 _ (heap_alloc_new w1 _) (by kernel_rfl) rfl (by decide +kernel) ?_
     have HT : Hid (Blk ((w1.alloc (.cells #[Value.int .u32 0, Value.int .u32 0, Value.int .u32 0, Value.int .u32 0, Value.int .u32 0, Value.int .u32 0, Value.int .u32 0, Value.int .u32 0, Value.int .u32 0, Value.int .u32 0, Value.int .u32 0, Value.int .u32 0, Value.int .u32 0, Value.int .u32 0, Value.int .u32 0, Value.int .u32 0] 76)).setRow w1.heap.size (tabL 16).toArray) w1.heap.size 76 (tabL 16).toArray) := hide (setRow_heap _ _ _ _ _ _ (heap_alloc_new w1 _))
     have HBB : Hid (Below w1.heap.size w1 ((w1.alloc (.cells #[Value.int .u32 0, Value.int .u32 0, Value.int .u32 0, Value.int .u32 0, Value.int .u32 0, Value.int .u32 0, Value.int .u32 0, Value.int .u32 0, Value.int .u32 0, Value.int .u32 0, Value.int .u32 0, Value.int .u32 0, Value.int .u32 0, Value.int .u32 0, Value.int .u32 0, Value.int .u32 0] 76)).setRow w1.heap.size (tabL 16).toArray)) := hide (below_setRow' ((Below.refl _ _).alloc (Nat.le_refl _) _) (Nat.le_refl _) _)
     obtain ⟨w2, hw2⟩ : ∃ w2, (w1.alloc (.cells #[Value.int .u32 0, Value.int .u32 0, Value.int .u32 0, Value.int .u32 0, Value.int .u32 0, Value.int .u32 0, Value.int .u32 0, Value.int .u32 0, Value.int .u32 0, Value.int .u32 0, Value.int .u32 0, Value.int .u32 0, Value.int .u32 0, Value.int .u32 0, Value.int .u32 0, Value.int .u32 0] 76)).setRow w1.heap.size (tabL 16).toArray = w2 := ⟨_, rfl⟩
     rw [hw2] at HT HBB ⊢
     have HR2 := Lib.hid (HR1.out.now HBB.out)
     clear hw2)
  go_loop [4, 10] (fun r i => ∃ k : Nat, k ≤ n ∧ i = .int .i64 k ∧ r = .int .u32 ((crcN (l.take k) : Nat) : Int)) (fun _ i => n - (intOf i).toNat)
  case atStart => exact ⟨0, by omega, rfl, rfl⟩
  case round =>
    obtain ⟨k, hk, rfl, rfl⟩ := hrel
    by_cases hlt : k < n
    · obtain ⟨ad, rfl, _, hc⟩ := HR2.out.byte hlt
      have HN := Lib.hid (crc_next l k (by rw [HL.out]; exact hlt))
      have hR := crcN_lt (l.take k)
      have hx := UInt8.toNat_lt (l.getD k 0)
      have HNib := Lib.hid (crcN_nib (l.take k) (l.getD k 0))
      obtain ⟨R, hRe⟩ : ∃ R, crcN (l.take k) = R := ⟨_, rfl⟩
      obtain ⟨x, hxe⟩ : ∃ x, (l.getD k 0).toNat = x := ⟨_, rfl⟩
      rw [hRe] at hR HN HNib ⊢
      rw [hxe] at hx HN hc HNib
      have HRe := Lib.hid hRe
      have HXe := Lib.hid hxe
      have hx2 := xor32_form R x _ rfl hR (by omega)
      have hX := xor32 R x hR (by omega)
      obtain ⟨X, hXe⟩ : ∃ X, R ^^^ x = X := ⟨_, rfl⟩
      rw [hXe] at hx2 hX HNib
      have ha := and15 X hX
      have hn1 := nib_form X hX
      have hc1 : w2.cell? ⟨w1.heap.size, X % 16, none⟩ = some (.int .u32 ((bitI 4 (X % 16) : Nat) : Int)) := by
        rw [HT.out.cell, tabL_at _ _ (Nat.mod_lt _ (by omega)), if_pos (Nat.mod_lt _ (by omega))]
      have hXd : X / 16 ^^^ bitI 4 (X % 16) < 4294967296 := xor32 _ _ (by omega) (bitI_lt 4 _ (by omega))
      obtain ⟨Y, hYe⟩ : ∃ Y, X / 16 ^^^ bitI 4 (X % 16) = Y := ⟨_, rfl⟩
      rw [hYe] at hXd hn1
      have ha2 := and15 Y hXd
      have hn2 := nib_form Y hXd
      have hc2 : w2.cell? ⟨w1.heap.size, Y % 16, none⟩ = some (.int .u32 ((bitI 4 (Y % 16) : Nat) : Int)) := by
        rw [HT.out.cell, tabL_at _ _ (Nat.mod_lt _ (by omega)), if_pos (Nat.mod_lt _ (by omega))]
      have HF : Hid (Y / 16 ^^^ bitI 4 (Y % 16) = crcN (l.take (k + 1))) := by
        have e : l.take (k + 1) = l.take k ++ [l.getD k 0] := by
          rw [List.take_succ_eq_append_getElem (show k < l.length by rw [HL.out]; exact hlt)]
          simp [List.getElem?_eq_getElem (show k < l.length by rw [HL.out]; exact hlt)]
        rw [e]
        exact hide (HNib.out X Y rfl hYe.symm)
      have hm1 : X % 16 < 16 := Nat.mod_lt _ (by omega)
      have hm2 : Y % 16 < 16 := Nat.mod_lt _ (by omega)
      generalize X % 16 = p at *
      generalize Y % 16 = q at *
      clear hRe hxe hXe hYe
      go_wp2_with fail
      go_round
      case rel => exact ⟨k + 1, by omega, by go_num, by rw [HF.out]⟩
      case measure => simp [intOf]; omega
    · have hR := crcN_lt (l.take k)
      have HZ : Hid (bits .xor .u32 IntKind.u32.max ((crcN (l.take k) : Nat) : Int) = (s : Int)) := by
        have h := u32_xor_nat 4294967295 (crcN (l.take k)) (by omega) hR
        rw [Nat.xor_comm] at h
        rw [← HS.out]
        unfold sumN
        rw [List.take_of_length_le (by rw [HL.out]; omega)] at h ⊢
        exact hide h
      go_wp2_with fail
      go_ret
      exact ⟨ret_i HZ.out, HB1.out.trans (HBB.out.mono hs1)⟩
end Go.Proofs.Ytdmkkpnjakdnnaa
