/-
  The checksum of chapter 3 and of its reference, walked.
  Frame of chapter 3 and of its reference, walked.
  Unframe of chapter 3, walked.
  Unframe of the reference of chapter 3, walked.
-/
import Derived.Test.YtedeggjefnpjgaaDvB
import Derived.Test.YtedeggjefnpjgaaBlk
import Derived.Laws.Tables
import Derived.Laws.Rows
import Derived.Deep.RegionWith
namespace Go.Proofs.Ytedeggjefnpjgaa

section
open Go.RowKit

theorem and1 (R : Nat) (h : R < 4294967296) : bits .and .u32 (R : Int) 1 = ((R % 2 : Nat) : Int) := by
  have h1 : (BitVec.ofInt 32 1).toNat = 2 ^ 1 - 1 := by decide
  have key : (BitVec.ofInt 32 (R : Int) &&& BitVec.ofInt 32 1).toNat = R % 2 := by
    rw [BitVec.toNat_and, BitVec.toNat_ofInt, h1, Nat.and_two_pow_sub_one_eq_mod]
    omega
  show IntKind.u32.wrap ((BitVec.ofInt 32 (R : Int) &&& BitVec.ofInt 32 1).toNat : Nat) = _
  rw [key, IntKind.wrap_u32]
  omega
theorem and15 (R : Nat) (h : R < 4294967296) : bits .and .u32 (R : Int) 15 = ((R % 16 : Nat) : Int) := by
  have h1 : (BitVec.ofInt 32 15).toNat = 2 ^ 4 - 1 := by decide
  have key : (BitVec.ofInt 32 (R : Int) &&& BitVec.ofInt 32 15).toNat = R % 16 := by
    rw [BitVec.toNat_and, BitVec.toNat_ofInt, h1, Nat.and_two_pow_sub_one_eq_mod]
    omega
  show IntKind.u32.wrap ((BitVec.ofInt 32 (R : Int) &&& BitVec.ofInt 32 15).toNat : Nat) = _
  rw [key, IntKind.wrap_u32]
  omega
theorem xor32_form (a b : Nat) (c : Int) (hc : c = (b : Int)) (ha : a < 4294967296) (hb : b < 4294967296) : bits .xor .u32 (a : Int) c = ((a ^^^ b : Nat) : Int) := by
  subst hc
  exact u32_xor_nat a b ha hb
theorem bit_odd (R : Nat) (h : R < 4294967296) (h1 : R % 2 = 1) : bits .xor .u32 ((R : Int) / 2) 2197175160 = ((bitN R : Nat) : Int) := by
  unfold bitN
  rw [if_pos h1, show ((R : Int) / 2) = ((R / 2 : Nat) : Int) by omega]
  exact xor32_form _ 2197175160 _ rfl (by omega) (by omega)
theorem bit_even (R : Nat) (h1 : ¬ R % 2 = 1) : (R : Int) / 2 = ((bitN R : Nat) : Int) := by
  unfold bitN
  rw [if_neg h1]
  omega
theorem crc_next (l : List UInt8) (k : Nat) (h : k < l.length) : crcN (l.take (k + 1)) = bitI 8 (crcN (l.take k) ^^^ (l.getD k 0).toNat) := by
  have e : l.getD k 0 = l[k] := by simp [List.getElem?_eq_getElem h]
  rw [List.take_succ_eq_append_getElem h, crcN_snoc, e]

/-- the table of four bits, its first k entries -/
def tabL (k : Nat) : List Value := (List.range 16).map fun i => if i < k then Value.int .u32 ((bitI 4 i : Nat) : Int) else .int .u32 0
theorem tabL_at (k i : Nat) (h : i < 16) : (tabL k).toArray[i]? = some (if i < k then Value.int .u32 ((bitI 4 i : Nat) : Int) else .int .u32 0) := by simp [tabL, h]
theorem tabL_set (k : Nat) (h : k < 16) : (tabL k).toArray.setIfInBounds k (.int .u32 ((bitI 4 k : Nat) : Int)) = (tabL (k + 1)).toArray := by
  apply Array.ext_getElem?
  intro i
  rw [Array.getElem?_setIfInBounds]
  by_cases hi : i < 16
  · rw [tabL_at _ _ hi, tabL_at _ _ hi]
    by_cases e : k = i
    · subst e
      simp [tabL, hi]
    · rw [if_neg e]
      congr 1
      by_cases h2 : i < k
      · rw [if_pos h2, if_pos (by omega)]
      · rw [if_neg h2, if_neg (by omega)]
  · have e1 : ∀ k, (tabL k).toArray[i]? = none := fun k => by simp [tabL]; omega
    rw [e1, e1]
    split
    · rename_i h1; omega
    · rfl

set_option maxRecDepth 100000 in
set_option maxHeartbeats 400000 in
theorem table_any (w : World) :
    Calls Try.prog 65 #[] w fun e w' => e = .returned (.agg (tabL 16).toArray) ∧ Below w.heap.size w w' := by
  have hz : (tabL 0).toArray = #[Value.int .u32 0, Value.int .u32 0, Value.int .u32 0, Value.int .u32 0, Value.int .u32 0, Value.int .u32 0, Value.int .u32 0, Value.int .u32 0, Value.int .u32 0, Value.int .u32 0, Value.int .u32 0, Value.int .u32 0, Value.int .u32 0, Value.int .u32 0, Value.int .u32 0, Value.int .u32 0] := by kernel_rfl
  have HZ := Lib.hid hz
  clear hz
  go_enter Try.func65, Try.ntmps65
  go_wp2_with fail
  go_loopw [5] (fun i wr => ∃ k : Nat, k ≤ 16 ∧ i = .int .i64 k ∧ Blk wr (w.heap.size + 1) 113 (tabL k).toArray ∧ Blk wr w.heap.size 113 (tabL 0).toArray ∧ Below w.heap.size w wr) (fun i _ => 16 - (intOf i).toNat)
  case atStart =>
    refine ⟨0, by omega, rfl, ?_, ?_, ((Below.refl _ _).alloc (Nat.le_refl _) _).alloc (by simp) _⟩
    · rw [HZ.out]
      have h := Blk.new (w.alloc (.cells #[Value.int .u32 0, Value.int .u32 0, Value.int .u32 0, Value.int .u32 0, Value.int .u32 0, Value.int .u32 0, Value.int .u32 0, Value.int .u32 0, Value.int .u32 0, Value.int .u32 0, Value.int .u32 0, Value.int .u32 0, Value.int .u32 0, Value.int .u32 0, Value.int .u32 0, Value.int .u32 0] 113)) 113 #[Value.int .u32 0, Value.int .u32 0, Value.int .u32 0, Value.int .u32 0, Value.int .u32 0, Value.int .u32 0, Value.int .u32 0, Value.int .u32 0, Value.int .u32 0, Value.int .u32 0, Value.int .u32 0, Value.int .u32 0, Value.int .u32 0, Value.int .u32 0, Value.int .u32 0, Value.int .u32 0]
      have e : ∀ o, (w.alloc o).heap.size = w.heap.size + 1 := fun o => by simp
      rwa [e] at h
    · rw [HZ.out]
      exact (Blk.new w _ _).alloc _
  case round =>
    obtain ⟨k, hk, rfl, hb1, hb0, hbr⟩ := hrel
    obtain ⟨wo, rfl⟩ : ∃ wo : World, wo = wr := ⟨_, rfl⟩
    have HB1 := Lib.hid hb1
    have HB0 := Lib.hid hb0
    have HBR := Lib.hid hbr
    by_cases hlt : k < 16
    · have hc : wo.cell? ⟨w.heap.size + 1, k, none⟩ = some (if k < k then Value.int .u32 ((bitI 4 k : Nat) : Int) else .int .u32 0) := by rw [hb1.cell, tabL_at _ _ hlt]
      rw [if_neg (by omega)] at hc
      have hf : wo.frozen? ⟨w.heap.size + 1, k, none⟩ = false := hb1.frozen k
      clear hb1 hb0 hbr
      go_wp2_with fail
      go_loop [3, 10] (fun r j => ∃ m : Nat, m ≤ 4 ∧ j = .int .i64 m ∧ r = .int .u32 ((bitI m k : Nat) : Int)) (fun _ j => 4 - (intOf j).toNat)
      case atStart => exact ⟨0, by omega, rfl, by first | rfl | go_num⟩
      case round =>
        obtain ⟨m, hm, rfl, rfl⟩ := hrel
        by_cases hm8 : m < 4
        · have hY := bitI_lt m k (by omega)
          have HB : Hid (bitI (m + 1) k = bitN (bitI m k)) := rfl
          obtain ⟨Y, hYe⟩ : ∃ Y, bitI m k = Y := ⟨_, rfl⟩
          rw [hYe] at hY HB ⊢
          have HYe := Lib.hid hYe
          have ha := and1 Y hY
          clear hYe
          by_cases h1 : Y % 2 = 1
          · have ho := bit_odd Y hY h1
            rw [h1] at ha
            have H1 := Lib.hid h1
            clear h1
            go_wp2_with fail
            go_round
            case rel => exact ⟨m + 1, by omega, by go_num, by rw [HB.out]⟩
            case measure => simp [intOf]; omega
          · have ho := bit_even Y h1
            rw [show Y % 2 = 0 by omega] at ha
            have H1 := Lib.hid h1
            have HE := Lib.hid ho
            clear h1 ho
            go_wp2_with fail
            go_round
            case rel => exact ⟨m + 1, by omega, by go_num, by rw [HB.out, ← HE.out]⟩
            case measure => simp [intOf]; omega
        · obtain rfl : m = 4 := by omega
          go_wp2_with fail
          go_roundw
          case rel =>
            refine ⟨k + 1, by omega, by go_num, ?_, HB0.out.far (by simp) _, HBR.out.setCell (by simp) _⟩
            rw [← tabL_set k hlt]
            exact HB1.out.set_ k _
          case measure => simp [intOf]; omega
    · obtain rfl : k = 16 := by omega
      clear hb1 hb0 hbr
      go_wp2_with
        (first
         | (refine wpList_load_row rfl 113 (.tmp 1) rfl (w.heap.size + 1) rfl 113 (tabL 16).toArray (0, 0) _ HB1.out Try.underlying113 rfl (by kernel_rfl) ?_)
         | (refine wpList_store_row rfl 113 (.tmp 0) (.tmp 25) rfl w.heap.size (tabL 16).toArray rfl rfl 113 (tabL 0).toArray HB0.out (by kernel_rfl) rfl (by decide +kernel) ?_))
      refine bodyPost_ret (v := .agg (tabL 16).toArray) (results_cell_row rfl _ _ w.heap.size 113 (tabL 16).toArray (0, 0) _ rfl (setRow_heap wo w.heap.size _ _ _ _ HB0.out) Try.underlying113 rfl (by kernel_rfl)) rfl ⟨rfl, ?_⟩
      refine HBR.out.trans ⟨rfl, rfl, rfl, by simp, fun j hj => setRow_other _ _ _ _ (by omega)⟩
theorem nib_form (R : Nat) (h : R < 4294967296) : bits .xor .u32 ((R : Int) / 16) ((bitI 4 (R % 16) : Nat) : Int) = ((R / 16 ^^^ bitI 4 (R % 16) : Nat) : Int) := by
  rw [show ((R : Int) / 16) = ((R / 16 : Nat) : Int) by omega]
  exact u32_xor_nat _ _ (by omega) (bitI_lt 4 _ (by omega))
theorem below_setRow' {B : Nat} {w0 w : World} (hb : Below B w0 w) {g : Nat} (hg : B ≤ g) (cs : Array Value) : Below B w0 (w.setRow g cs) :=
  hb.trans ⟨rfl, rfl, rfl, by simp, fun j hj => setRow_other _ _ _ _ (by omega)⟩

set_option maxRecDepth 100000 in
set_option maxHeartbeats 400000 in
theorem sum_any (A : Option Addr) (n c : Nat) (l : List UInt8) (s : Nat) (w : World) (hr : Bytes w w.heap.size A n l) (hn : n ≤ 1000000000) (hs : sumN l = s) :
    Calls Try.prog 61 #[.slice A n c] w fun e w' => e = .returned (.int .u32 (s : Int)) ∧ Below w.heap.size w w' := by
  have HL := Lib.hid hr.blen
  have HR := Lib.hid hr
  have HS := Lib.hid hs
  have hz : (tabL 0).toArray = #[Value.int .u32 0, Value.int .u32 0, Value.int .u32 0, Value.int .u32 0, Value.int .u32 0, Value.int .u32 0, Value.int .u32 0, Value.int .u32 0, Value.int .u32 0, Value.int .u32 0, Value.int .u32 0, Value.int .u32 0, Value.int .u32 0, Value.int .u32 0, Value.int .u32 0, Value.int .u32 0] := by kernel_rfl
  have HZ := Lib.hid hz
  clear hr hs hz
  go_enter Try.func61, Try.ntmps61
  go_wp2_with fail
  with_reducible refine (table_any _).mono ?_
  rintro e w1 ⟨rfl, hb1⟩
  have HB1 := Lib.hid hb1
  have HR1 := Lib.hid (HR.out.now hb1)
  have hs1 := hb1.size
  clear hb1
  go_wp2_with
    (refine wpList_store_row rfl 113 (.tmp 3) (.tmp 7) rfl w1.heap.size (tabL 16).toArray rfl rfl 113 _ (heap_alloc_new w1 _) (by kernel_rfl) rfl (by decide +kernel) ?_
     have HT : Hid (Blk ((w1.alloc (.cells #[Value.int .u32 0, Value.int .u32 0, Value.int .u32 0, Value.int .u32 0, Value.int .u32 0, Value.int .u32 0, Value.int .u32 0, Value.int .u32 0, Value.int .u32 0, Value.int .u32 0, Value.int .u32 0, Value.int .u32 0, Value.int .u32 0, Value.int .u32 0, Value.int .u32 0, Value.int .u32 0] 113)).setRow w1.heap.size (tabL 16).toArray) w1.heap.size 113 (tabL 16).toArray) := hide (setRow_heap _ _ _ _ _ _ (heap_alloc_new w1 _))
     have HBB : Hid (Below w1.heap.size w1 ((w1.alloc (.cells #[Value.int .u32 0, Value.int .u32 0, Value.int .u32 0, Value.int .u32 0, Value.int .u32 0, Value.int .u32 0, Value.int .u32 0, Value.int .u32 0, Value.int .u32 0, Value.int .u32 0, Value.int .u32 0, Value.int .u32 0, Value.int .u32 0, Value.int .u32 0, Value.int .u32 0, Value.int .u32 0] 113)).setRow w1.heap.size (tabL 16).toArray)) := hide (below_setRow' ((Below.refl _ _).alloc (Nat.le_refl _) _) (Nat.le_refl _) _)
     obtain ⟨w2, hw2⟩ : ∃ w2, (w1.alloc (.cells #[Value.int .u32 0, Value.int .u32 0, Value.int .u32 0, Value.int .u32 0, Value.int .u32 0, Value.int .u32 0, Value.int .u32 0, Value.int .u32 0, Value.int .u32 0, Value.int .u32 0, Value.int .u32 0, Value.int .u32 0, Value.int .u32 0, Value.int .u32 0, Value.int .u32 0, Value.int .u32 0] 113)).setRow w1.heap.size (tabL 16).toArray = w2 := ⟨_, rfl⟩
     rw [hw2] at HT HBB ⊢
     have HR2 := Lib.hid (HR1.out.now HBB.out)
     clear hw2)
  go_loop [4, 10] (fun r i => ∃ k : Nat, k ≤ n ∧ i = .int .i64 k ∧ r = .int .u32 ((crcN (l.take k) : Nat) : Int)) (fun _ i => n - (intOf i).toNat)
  case atStart => exact ⟨0, by omega, rfl, rfl⟩
  case round =>
    obtain ⟨k, hk, rfl, rfl⟩ := hrel
    by_cases hlt : k < n
    · obtain ⟨ad, rfl, _, hc⟩ := HR2.out.byte hlt
      have HN := Lib.hid (crc_next l k (by rw [HL.out]; exact hlt))
      have hR := crcN_lt (l.take k)
      have hx := UInt8.toNat_lt (l.getD k 0)
      have HNib := Lib.hid (crcN_nib (l.take k) (l.getD k 0))
      obtain ⟨R, hRe⟩ : ∃ R, crcN (l.take k) = R := ⟨_, rfl⟩
      obtain ⟨x, hxe⟩ : ∃ x, (l.getD k 0).toNat = x := ⟨_, rfl⟩
      rw [hRe] at hR HN HNib ⊢
      rw [hxe] at hx HN hc HNib
      have HRe := Lib.hid hRe
      have HXe := Lib.hid hxe
      have hx2 := xor32_form R x _ rfl hR (by omega)
      have hX := xor32 R x hR (by omega)
      obtain ⟨X, hXe⟩ : ∃ X, R ^^^ x = X := ⟨_, rfl⟩
      rw [hXe] at hx2 hX HNib
      have ha := and15 X hX
      have hn1 := nib_form X hX
      have hc1 : w2.cell? ⟨w1.heap.size, X % 16, none⟩ = some (.int .u32 ((bitI 4 (X % 16) : Nat) : Int)) := by
        rw [HT.out.cell, tabL_at _ _ (Nat.mod_lt _ (by omega)), if_pos (Nat.mod_lt _ (by omega))]
      have hXd : X / 16 ^^^ bitI 4 (X % 16) < 4294967296 := xor32 _ _ (by omega) (bitI_lt 4 _ (by omega))
      obtain ⟨Y, hYe⟩ : ∃ Y, X / 16 ^^^ bitI 4 (X % 16) = Y := ⟨_, rfl⟩
      rw [hYe] at hXd hn1
      have ha2 := and15 Y hXd
      have hn2 := nib_form Y hXd
      have hc2 : w2.cell? ⟨w1.heap.size, Y % 16, none⟩ = some (.int .u32 ((bitI 4 (Y % 16) : Nat) : Int)) := by
        rw [HT.out.cell, tabL_at _ _ (Nat.mod_lt _ (by omega)), if_pos (Nat.mod_lt _ (by omega))]
      have HF : Hid (Y / 16 ^^^ bitI 4 (Y % 16) = crcN (l.take (k + 1))) := by
        have e : l.take (k + 1) = l.take k ++ [l.getD k 0] := by
          rw [List.take_succ_eq_append_getElem (show k < l.length by rw [HL.out]; exact hlt)]
          simp [List.getElem?_eq_getElem (show k < l.length by rw [HL.out]; exact hlt)]
        rw [e]
        exact hide (HNib.out X Y rfl hYe.symm)
      have hm1 : X % 16 < 16 := Nat.mod_lt _ (by omega)
      have hm2 : Y % 16 < 16 := Nat.mod_lt _ (by omega)
      generalize X % 16 = p at *
      generalize Y % 16 = q at *
      clear hRe hxe hXe hYe
      go_wp2_with fail
      go_round
      case rel => exact ⟨k + 1, by omega, by go_num, by rw [HF.out]⟩
      case measure => simp [intOf]; omega
    · have hR := crcN_lt (l.take k)
      have HZ : Hid (bits .xor .u32 IntKind.u32.max ((crcN (l.take k) : Nat) : Int) = (s : Int)) := by
        have h := u32_xor_nat 4294967295 (crcN (l.take k)) (by omega) hR
        rw [Nat.xor_comm] at h
        rw [← HS.out]
        unfold sumN
        rw [List.take_of_length_le (by rw [HL.out]; omega)] at h ⊢
        exact hide h
      go_wp2_with fail
      go_ret
      exact ⟨ret_i HZ.out, HB1.out.trans (HBB.out.mono hs1)⟩
end

section
open Go.RowKit

theorem be4_form (s : Nat) (h : s < 4294967296) : [Value.int .u8 ((s : Int) / 16777216), .int .u8 ((s : Int) / 65536 % 256), .int .u8 ((s : Int) / 256 % 256), .int .u8 ((s : Int) % 256)] = (be4 s).map B8 := by
  simp only [be4, List.map_cons, List.map_nil, B8, UInt8.toNat_ofNat']
  congr 1
  congr 1
  omega

set_option maxRecDepth 100000 in
set_option maxHeartbeats 400000 in
theorem frame_any (A : Option Addr) (n c : Nat) (l : List UInt8) (w : World) (hr : Bytes w w.heap.size A n l) (hn : n ≤ 1000000) :
    Calls Try.prog 57 #[.slice A n c] w fun e w' => ∃ v, e = .returned v ∧ OwnB w' w.heap.size v (frameN l) ∧ Below w.heap.size w w' := by
  have HL := Lib.hid hr.blen
  have HR := Lib.hid hr
  have hsl := sumN_lt l
  obtain ⟨s, hs⟩ : ∃ s, sumN l = s := ⟨_, rfl⟩
  rw [hs] at hsl
  have HS := Lib.hid hs
  have HF : Hid (putN n ++ l ++ be4 s = frameN l) := by show _ = _; rw [frameN, HL.out, hs]
  have HB4 := Lib.hid (be4_form s hsl)
  clear hr hs
  go_enter Try.func57, Try.ntmps57
  go_wp2_with fail
  with_reducible refine (sum_any _ _ _ _ s _ HR.out (by omega) HS.out).mono ?_
  rintro e w1 ⟨rfl, hb1⟩
  have HR1 := Lib.hid (HR.out.now hb1)
  have HB1 := Lib.hid hb1
  clear hb1
  go_wp2_with fail
  with_reducible refine (Put_any none 0 0 0 [] (n : Int) n _ Reads.empty (by omega) (Nat.zero_le _) (by omega) (by simp)).mono ?_
  rintro e w2 ⟨v, rfl, hown, hb2⟩
  rw [List.nil_append] at hown
  have HR2 := Lib.hid (HR1.out.now hb2)
  have HB2 : Hid (Below w.heap.size w w2) := HB1.out.trans (hb2.mono HB1.out.size)
  have hb12 := HB1.out.size
  have hb22 := hb2.size
  have HO := Lib.hid (hown.mono hb12)
  have hpl := putN_len n
  clear hown hb2
  go_wp2_with
    (first
     | (at_builtin
        refine wpList_app _ ei_byte rfl (.tmp 8) (.tmp 9) rfl w.heap.size v (putN n).length ((putN n).map B8) rfl HO.out w2.heap.size A n c (l.map B8) rfl HR2.out (oneCell_B8 l) (by simp only [maxLen]; omega) (by omega) (by omega) ?_
        intro v3 w3 hown3 hg3 hbw3 hat3
        have HO3 : Hid (w3.ownsRow w.heap.size 5 1 v3 ((putN n).length + n) ((putN n ++ l).map B8)) := by
          rw [app_map] at hown3
          exact hide hown3
        have HB3 : Hid (Below w.heap.size w w3) := HB2.out.trans hbw3
        have hs3 := HB3.out.size
        clear hown3 hg3 hbw3 hat3)
     | (at_builtin
        refine wpList_app _ ei_byte rfl (.tmp 10) (.tmp 22) rfl w.heap.size v3 ((putN n).length + n) ((putN n ++ l).map B8) rfl (HO3.out.alloc _) (w3.heap.size + 1) (some ⟨w3.heap.size, 0, none⟩) 4 4 [.int .u8 ((s : Int) / 16777216), .int .u8 ((s : Int) / 65536 % 256), .int .u8 ((s : Int) / 256 % 256), .int .u8 ((s : Int) % 256)] rfl (Reads.new w3 5 #[.int .u8 ((s : Int) / 16777216), .int .u8 ((s : Int) / 65536 % 256), .int .u8 ((s : Int) / 256 % 256), .int .u8 ((s : Int) % 256)] 1 4 rfl) (by rw [HB4.out]; exact oneCell_B8 _) (by simp only [maxLen]; omega) (by omega) (by simp; omega) ?_
        intro v4 w4 hown4 hg4 hbw4 hat4
        have HO4 : Hid (OwnB w4 w.heap.size v4 (frameN l)) := by
          rw [HB4.out, app_map] at hown4
          exact OwnB.mk' hown4 (by rw [← HF.out]; simp [HL.out, be4_len]; omega) (by rw [HF.out])
        have HBB4 : Hid (Below w.heap.size w w4) := (HB3.out.alloc hs3 _).trans hbw4
        clear hown4 hg4 hbw4 hat4))
  go_ret
  exact ⟨_, rfl, HO4.out, HBB4.out⟩
end

section
open Go.RowKit

theorem or32_form (S x : Nat) (hS : S < 16777216) (hx : x < 256) : bits .or .u32 ((S : Int) * 256) (x : Int) = ((S * 256 + x : Nat) : Int) := by
  rw [show ((S : Int) * 256) = ((S * 256 : Nat) : Int) by omega, u32_or_nat _ _ (by omega) (by omega)]
  congr 1
  rw [Nat.mul_comm, show (256 : Nat) = 2 ^ 8 from rfl, ← Nat.two_pow_add_eq_or_of_lt (by omega)]
theorem de4_next (l : List UInt8) (k : Nat) (h : k < l.length) : de4 (l.take (k + 1)) = de4 (l.take k) * 256 + (l.getD k 0).toNat := by
  have e : l.getD k 0 = l[k] := by simp [List.getElem?_eq_getElem h]
  rw [List.take_succ_eq_append_getElem h, e]
  unfold de4
  rw [List.foldl_append]
  rfl
theorem de4_lt (l : List UInt8) : de4 l < 256 ^ l.length := by
  have key : ∀ (l : List UInt8) (s : Nat), l.foldl (fun s c => s * 256 + c.toNat) s < (s + 1) * 256 ^ l.length := by
    intro l
    induction l with
    | nil => intro s; simp
    | cons c t ih =>
      intro s
      have h := ih (s * 256 + c.toNat)
      have hc := UInt8.toNat_lt c
      rw [List.foldl_cons, List.length_cons, Nat.pow_succ]
      refine Nat.lt_of_lt_of_le h ?_
      rw [Nat.mul_comm (256 ^ t.length) 256, ← Nat.mul_assoc]
      exact Nat.mul_le_mul_right _ (by omega)
  have h := key l 0
  simpa [de4] using h

set_option maxRecDepth 100000 in
set_option maxHeartbeats 400000 in
theorem unf_any (A : Option Addr) (n c : Nat) (l body : List UInt8) (k e : Nat) (w : World) (hr : Bytes w w.heap.size A n l) (hn : n ≤ 10000000) (hc : n ≤ c) (hc2 : c ≤ maxLen) (hT : unfG l = (body, k, e)) :
    Calls Try.prog 58 #[.slice A n c] w fun e' w' => ∃ v, e' = .returned (.tuple #[v, .int .i64 (k : Int), .int .i64 (e : Int)]) ∧ OwnB w' w.heap.size v body ∧ Below w.heap.size w w' := by
  have HL := Lib.hid hr.blen
  have HR := Lib.hid hr
  unfold maxLen at hc2
  unfold unfG at hT
  rcases getN_cases l with ⟨N, K, hg, hk1, hk9, hkl, hN, hp1, hp2⟩ | ⟨E, hg, hE, hp1⟩
  · rw [hg] at hT
    have hkn : K ≤ n := by rw [← hr.blen]; exact hkl
    have HG := Lib.hid hg
    clear hr hg hkl hp1 hp2
    simp only [ne_eq, not_true_eq_false, if_false] at hT
    by_cases h1 : 65536 < N
    · rw [if_pos h1] at hT
      simp only [Prod.mk.injEq] at hT
      obtain ⟨rfl, rfl, rfl⟩ := hT
      go_enter Try.func58, Try.ntmps58
      go_wp2_with fail
      with_reducible refine (get_any N K 0 _ _ _ _ _ _ HR.out HG.out).mono ?_
      rintro e w' ⟨rfl, rfl⟩
      go_wp2_with fail
      go_ret3
      exact ⟨_, rfl, OwnB.nil _ _, Below.refl _ _⟩
    · rw [if_neg h1] at hT
      by_cases h2 : n < K + N + 4
      · rw [if_pos (by rw [HL.out]; exact h2)] at hT
        simp only [Prod.mk.injEq] at hT
        obtain ⟨rfl, rfl, rfl⟩ := hT
        go_enter Try.func58, Try.ntmps58
        go_wp2_with fail
        with_reducible refine (get_any N K 0 _ _ _ _ _ _ HR.out HG.out).mono ?_
        rintro e w' ⟨rfl, rfl⟩
        go_wp2_with fail
        go_ret3
        exact ⟨_, rfl, OwnB.nil _ _, Below.refl _ _⟩
      · rw [if_neg (by rw [HL.out]; exact h2)] at hT
        have HT := Lib.hid hT
        have HTail := Lib.hid (HR.out.bpart (k := K + N) (d := 4) (by omega))
        have HTL : Hid (((l.drop (K + N)).take 4).length = 4) := by show _ = _; rw [List.length_take, List.length_drop, HL.out]; omega
        have HBody := Lib.hid (HR.out.bpart (k := K) (d := N) (by omega))
        have HBL : Hid (((l.drop K).take N).length = N) := by show _ = _; rw [List.length_take, List.length_drop, HL.out]; omega
        clear hT
        generalize (l.drop (K + N)).take 4 = tl at *
        generalize (l.drop K).take N = bd at *
        go_enter Try.func58, Try.ntmps58
        go_wp2_with fail
        with_reducible refine (get_any N K 0 _ _ _ _ _ _ HR.out HG.out).mono ?_
        rintro e w' ⟨rfl, rfl⟩
        go_wp2_with fail
        go_loop [9, 37] (fun s i => ∃ j : Nat, j ≤ 4 ∧ i = .int .i64 j ∧ s = .int .u32 ((de4 (tl.take j) : Nat) : Int)) (fun _ i => 4 - (intOf i).toNat)
        case atStart => exact ⟨0, by omega, rfl, rfl⟩
        case round =>
          obtain ⟨j, hj, rfl, rfl⟩ := hrel
          by_cases hj4 : j < 4
          · obtain ⟨ad, had, _, hcx⟩ := HTail.out.byte hj4
            have HDN := Lib.hid (de4_next tl j (by rw [HTL.out]; exact hj4))
            have hS : de4 (tl.take j) < 16777216 := by
              have h := de4_lt (tl.take j)
              have h2 : (tl.take j).length ≤ 3 := by simp; omega
              have h3 := Nat.pow_le_pow_right (show 0 < 256 by omega) h2
              have h4 : (256 : Nat) ^ 3 = 16777216 := by decide
              omega
            have hx := UInt8.toNat_lt (tl.getD j 0)
            obtain ⟨S, hSe⟩ : ∃ S, de4 (tl.take j) = S := ⟨_, rfl⟩
            obtain ⟨x, hxe⟩ : ∃ x, (tl.getD j 0).toNat = x := ⟨_, rfl⟩
            rw [hSe] at hS HDN ⊢
            rw [hxe] at hx HDN hcx
            have ho := or32_form S x hS hx
            have HSe := Lib.hid hSe
            have HXe := Lib.hid hxe
            clear hSe hxe
            cases A with
            | none => cases had
            | some ad0 =>
              have had' : ad0.add (K + N) = ad := by simpa using had
              subst had'
              clear had
              go_wp2_with fail
              go_round
              case rel => exact ⟨j + 1, by omega, by go_num, by rw [HDN.out]; congr 1⟩
              case measure => simp [intOf]; omega
          · obtain rfl : j = 4 := by omega
            have HTt : Hid (tl.take 4 = tl) := hide (List.take_of_length_le (by rw [HTL.out]; omega))
            obtain ⟨s, hs⟩ : ∃ s, sumN bd = s := ⟨_, rfl⟩
            have hsl := sumN_lt bd
            have HS := Lib.hid hs
            by_cases hq : de4 tl = sumN bd
            · have hb : (((de4 (tl.take 4) : Nat) : Int) != (s : Int)) = false := by rw [bne_eq_false_iff_eq, HTt.out, hq, hs]
              have HT2 := Lib.hid HT.out
              rw [if_neg (by rw [hq]; simp)] at HT2
              clear hs hq hsl
              go_wp2_with fail
              with_reducible refine (sum_any _ _ _ _ s _ HBody.out (by omega) HS.out).mono ?_
              rintro e' w1 ⟨rfl, hb1⟩
              have HBody1 := Lib.hid (HBody.out.now hb1)
              have HB1 := Lib.hid hb1
              clear hb1
              go_wp2_with fail
              with_reducible refine (clone_b _ _ _ _ _ _ HBody1.out (by omega) (Nat.le_refl _)).mono ?_
              rintro e' w2 ⟨v, rfl, hown, hb2⟩
              have HO := Lib.hid (hown.mono HB1.out.size)
              have HB2 := Lib.hid (HB1.out.trans (hb2.mono HB1.out.size))
              clear hown hb2
              go_wp2_with fail
              go_ret3
              have hT := HT2.out
              simp only [Prod.mk.injEq] at hT
              obtain ⟨rfl, rfl, rfl⟩ := hT
              exact ⟨v, by simp, HO.out, HB2.out⟩
            · have hb : (((de4 (tl.take 4) : Nat) : Int) != (s : Int)) = true := by rw [bne_iff_ne, HTt.out]; omega
              have HT2 := Lib.hid HT.out
              rw [if_pos hq] at HT2
              clear hs hq hsl
              go_wp2_with fail
              with_reducible refine (sum_any _ _ _ _ s _ HBody.out (by omega) HS.out).mono ?_
              rintro e' w1 ⟨rfl, hb1⟩
              have HB1 := Lib.hid hb1
              clear hb1
              go_wp2_with fail
              go_ret3
              have hT := HT2.out
              simp only [Prod.mk.injEq] at hT
              obtain ⟨rfl, rfl, rfl⟩ := hT
              exact ⟨_, rfl, OwnB.nil _ _, HB1.out⟩
  · rw [hg] at hT
    have HG := Lib.hid hg
    have hb : ((E : Int) != 0) = true := by rw [bne_iff_ne]; omega
    clear hr hg hp1
    rw [if_pos hE] at hT
    simp only [Prod.mk.injEq] at hT
    obtain ⟨rfl, rfl, rfl⟩ := hT
    go_enter Try.func58, Try.ntmps58
    go_wp2_with fail
    with_reducible refine (get_any 0 0 E _ _ _ _ _ _ HR.out HG.out).mono ?_
    rintro e w' ⟨rfl, rfl⟩
    go_wp2_with fail
    go_ret3
    exact ⟨_, rfl, OwnB.nil _ _, Below.refl _ _⟩
end

section
open Go.RowKit

theorem Reads.bfront {w : World} {B n m : Nat} {A : Option Addr} {l : List UInt8} (h : Bytes w B A n l) (hm : m ≤ n) : Bytes w B A m (l.take m) := by
  have := Reads.front h hm
  rwa [← List.map_take] at this
theorem frame_eq (l bd tl : List UInt8) (N K : Nat) (hp : putN N = l.take K) (hb : (l.drop K).take N = bd) (ht : (l.drop (K + N)).take 4 = tl) (hl : K + N + 4 ≤ l.length) :
    frameN bd = l.take (K + N + 4) ↔ de4 tl = sumN bd := by
  have hbl : bd.length = N := by rw [← hb, List.length_take, List.length_drop]; omega
  have htl : tl.length = 4 := by rw [← ht, List.length_take, List.length_drop]; omega
  have e : l.take (K + N + 4) = putN N ++ bd ++ tl := by
    rw [List.take_add, List.take_add, hp, hb, ht]
  rw [e, frameN, hbl, be4_de4 tl htl _ (sumN_lt bd)]
  constructor
  · intro h
    exact (List.append_cancel_left h).symm
  · intro h
    rw [h]
end

end Go.Proofs.Ytedeggjefnpjgaa
