/-
  parse of chapter 25, walked.
-/
import Derived.Test.YthlhphifibldnaaCodecV
import Derived.Test.YthlhphifibldnaaMat
import Derived.Test.YthlhphifibldnaaMedP
import Derived.Test.YthlhphifibldnaaStr
import Derived.Test.YthlhphifibldnaaRowS
import Derived.Deep.Light
namespace Go.Proofs.Ythlhphifibldnaa
open Go.RowKit

theorem or8_form (S x : Nat) (hS : S < 72057594037927936) (hx : x < 256) : bits .or .u64 ((S : Int) * 256) (x : Int) = ((S * 256 + x : Nat) : Int) := by
  rw [show ((S : Int) * 256) = ((S * 256 : Nat) : Int) by omega, u64_or_nat _ _ (by omega) (by omega)]
  congr 1
  rw [Nat.mul_comm, show (256 : Nat) = 2 ^ 8 from rfl, ← Nat.two_pow_add_eq_or_of_lt (by omega)]
theorem de8_next (l : List UInt8) (k : Nat) (h : k < l.length) : de8 (l.take (k + 1)) = de8 (l.take k) * 256 + (l.getD k 0).toNat := by
  have e : l.getD k 0 = l[k] := by simp [List.getElem?_eq_getElem h]
  rw [List.take_succ_eq_append_getElem h, e, de8_snoc]
/-- the cells of an array of eight ints of which the first ones are set -/
def fL (f : List Int) : List Value := f.map (Value.int .i64) ++ List.replicate (8 - f.length) (Value.int .i64 0)
theorem fL_at {f : List Int} (h : f.length < 8) : (fL f).toArray[f.length]? = some (Value.int .i64 0) := by
  have h2 : 8 - f.length = (8 - f.length - 1) + 1 := by omega
  simp only [fL, List.getElem?_toArray]
  rw [h2, List.replicate_succ, List.getElem?_append_right (by simp)]
  simp
theorem fL_set {f : List Int} (h : f.length < 8) (z : Int) : (fL f).toArray.setIfInBounds f.length (.int .i64 z) = (fL (f ++ [z])).toArray := by
  have h2 : 8 - f.length = (8 - (f.length + 1)) + 1 := by omega
  simp only [fL, List.map_append, List.map_cons, List.map_nil, List.length_append, List.length_cons, List.length_nil, List.setIfInBounds_toArray]
  congr 1
  rw [h2, List.replicate_succ, List.set_append_right _ _ (by simp)]
  simp
def ParseR (body : List UInt8) (w : World) (e : Ending) (w' : World) : Prop := ∃ (m : Med) (ok : Bool) (T : Nat), e = .returned (.tuple #[.agg #[.int .i64 m.ser, .int .i64 m.cnt, .int .i64 m.prd, .int .i64 m.fst, .int .i64 m.lft, .int .i64 m.tdy, .int .i64 m.lif, .int .i64 m.at_, .int .u64 m.tag], .bool ok]) ∧ m.tag = (T : Int) ∧ T < 18446744073709551616 ∧ ParseP body m ok ∧ Below w.heap.size w w'
theorem parse_bad {body : List UInt8} {w w' : World} (h : ∀ L tl, ¬ Enc8 body L tl) (hb : Below w.heap.size w w') : ParseR body w (.returned (.tuple #[.agg #[.int .i64 0, .int .i64 0, .int .i64 0, .int .i64 0, .int .i64 0, .int .i64 0, .int .i64 0, .int .i64 0, .int .u64 0], .bool false])) w' :=
  ⟨zeroM, false, 0, rfl, rfl, by omega, parse_none h, hb⟩

set_option maxRecDepth 100000 in
set_option maxHeartbeats 4000000 in
theorem parse_any (A : Option Addr) (n c : Nat) (body : List UInt8) (w : World) (hr : Bytes w w.heap.size A n body) (hn : n ≤ 1000000) (hc : n ≤ c) (hc2 : c ≤ maxLen) :
    Calls Try.prog 35 #[.slice A n c] w (ParseR body w) := by
  have HR := Lib.hid hr
  have HI0 := Lib.hid (inv_0 body)
  have HM := Lib.hid hc2
  clear hr hc2
  go_enter Try.func35, Try.ntmps35
  go_wp2_with fail
  have HBwa := (Blk.new w 24 #[.int .i64 0, .int .i64 0, .int .i64 0, .int .i64 0, .int .i64 0, .int .i64 0, .int .i64 0, .int .i64 0, .int .u64 0])
  have HLwa := (below_new w (.cells #[.int .i64 0, .int .i64 0, .int .i64 0, .int .i64 0, .int .i64 0, .int .i64 0, .int .i64 0, .int .i64 0, .int .u64 0] 24))
  have hswa : (w.alloc (.cells #[.int .i64 0, .int .i64 0, .int .i64 0, .int .i64 0, .int .i64 0, .int .i64 0, .int .i64 0, .int .i64 0, .int .u64 0] 24)).heap.size = w.heap.size + 1 := by simp
  generalize w.alloc (.cells #[.int .i64 0, .int .i64 0, .int .i64 0, .int .i64 0, .int .i64 0, .int .i64 0, .int .i64 0, .int .i64 0, .int .u64 0] 24) = wa at HBwa HLwa hswa ⊢
  replace HBwa := Lib.hid HBwa
  replace HLwa := Lib.hid HLwa
  have hlwa : w.heap.size < wa.heap.size := by omega
  replace hswa := Lib.hid hswa
  have HBwb := (Blk.new wa 47 #[.int .i64 0, .int .i64 0, .int .i64 0, .int .i64 0, .int .i64 0, .int .i64 0, .int .i64 0, .int .i64 0])
  have HLwb := (below_new wa (.cells #[.int .i64 0, .int .i64 0, .int .i64 0, .int .i64 0, .int .i64 0, .int .i64 0, .int .i64 0, .int .i64 0] 47))
  have hswb : (wa.alloc (.cells #[.int .i64 0, .int .i64 0, .int .i64 0, .int .i64 0, .int .i64 0, .int .i64 0, .int .i64 0, .int .i64 0] 47)).heap.size = wa.heap.size + 1 := by simp
  generalize wa.alloc (.cells #[.int .i64 0, .int .i64 0, .int .i64 0, .int .i64 0, .int .i64 0, .int .i64 0, .int .i64 0, .int .i64 0] 47) = wb at HBwb HLwb hswb ⊢
  replace HBwb := Lib.hid HBwb
  replace HLwb := Lib.hid HLwb
  have hlwb : wa.heap.size < wb.heap.size := by omega
  replace hswb := Lib.hid hswb
  have hl0 : w.heap.size + 1 < wb.heap.size := by have := hswa.out; have := hswb.out; omega
  have HF0 : Hid (Blk wb (w.heap.size + 1) 47 (fL []).toArray) := by rw [← hswa.out]; exact HBwb.out
  have HZ0 := Lib.hid (HBwa.out.below HLwb.out hlwa)
  have HL0 := Lib.hid (HLwa.out.trans (HLwb.out.mono (by omega)))
  have HR0 := Lib.hid (HR.out.below HL0.out)
  clear HBwa HBwb HLwa HLwb hswa hswb hlwa hlwb
  go_loopw [0, 12] (fun s i wr => ∃ (k n c : Nat) (A : Option Addr) (r : List UInt8) (f : List Int), k ≤ 8 ∧ i = .int .i64 k ∧ s = .slice A n c ∧ n ≤ c ∧ n ≤ 1000000 ∧ c ≤ maxLen ∧ Bytes wr w.heap.size A n r ∧ f.length = k ∧ (∀ z ∈ f, 0 ≤ z ∧ z ≤ 9223372036854775807) ∧ InvP body k r f ∧ Blk wr (w.heap.size + 1) 47 (fL f).toArray ∧ Blk wr w.heap.size 24 #[.int .i64 0, .int .i64 0, .int .i64 0, .int .i64 0, .int .i64 0, .int .i64 0, .int .i64 0, .int .i64 0, .int .u64 0] ∧ Below w.heap.size w wr) (fun _ i _ => 8 - (intOf i).toNat)
  case atStart => exact ⟨0, n, c, A, body, [], by omega, rfl, rfl, hc, hn, HM.out, HR0.out, rfl, by simp, HI0.out, HF0.out, HZ0.out, HL0.out⟩
  case round =>
    obtain ⟨k, n, c, A, r, f, hk, rfl, rfl, hc, hn, hm, hr, hf, hfb, hinv, hbf, hbz, hbr⟩ := hrel
    obtain ⟨wo, rfl⟩ : ∃ wo : World, wo = wr := ⟨_, rfl⟩
    have HR := Lib.hid hr
    have HL := Lib.hid hr.blen
    have HM := Lib.hid hm
    have HFl := Lib.hid hf
    have HFb := Lib.hid hfb
    have HInv := Lib.hid hinv
    have HBf := Lib.hid hbf
    have HBz := Lib.hid hbz
    have HB := Lib.hid hbr
    clear hr hm hf hfb hinv hbf hbz hbr
    by_cases hlt : k < 8
    · rcases getN_cases r with ⟨N, K, hg, hk1, hk9, hkl, hN, hp1, hp2⟩ | ⟨E, hg, hE, hp1⟩
      · have hkn : K ≤ n := by rw [← HL.out]; exact hkl
        have HG := Lib.hid hg
        clear hkl hp1 hp2 hg
        have hcell : wo.cell? ⟨w.heap.size + 1, k, none⟩ = some (.int .i64 0) := by rw [HBf.out.cell k, ← HFl.out]; exact fL_at (by rw [HFl.out]; exact hlt)
        have hfro : wo.frozen? ⟨w.heap.size + 1, k, none⟩ = false := HBf.out.frozen k
        go_wp2_with fail
        with_reducible refine (get_any N K 0 _ _ _ _ _ _ HR.out HG.out).mono ?_
        rintro e w' ⟨rfl, rfl⟩
        have HFN : Hid (∀ z ∈ f ++ [(N : Int)], 0 ≤ z ∧ z ≤ 9223372036854775807) := by
          intro z hz
          rcases List.mem_append.1 hz with hz | hz
          · exact HFb.out z hz
          · simp only [List.mem_cons, List.not_mem_nil, or_false] at hz
            subst hz
            omega
        have HInv2 : Hid (InvP body (k + 1) (r.drop K) (f ++ [(N : Int)])) := hide (inv_step HInv.out hlt HG.out)
        have HBf2 : Hid (Blk (wo.setCell ⟨w.heap.size + 1, k, none⟩ (.int .i64 (N : Int))) (w.heap.size + 1) 47 (fL (f ++ [(N : Int)])).toArray) := by
          have h := HBf.out.set_ k (.int .i64 (N : Int))
          have h2 := fL_set (f := f) (by rw [HFl.out]; exact hlt) (N : Int)
          rw [HFl.out] at h2
          rwa [h2] at h
        have HBz2 : Hid (Blk (wo.setCell ⟨w.heap.size + 1, k, none⟩ (.int .i64 (N : Int))) w.heap.size 24 #[.int .i64 0, .int .i64 0, .int .i64 0, .int .i64 0, .int .i64 0, .int .i64 0, .int .i64 0, .int .i64 0, .int .u64 0]) := hide (HBz.out.far (by simp) _)
        have HB2 : Hid (Below w.heap.size w (wo.setCell ⟨w.heap.size + 1, k, none⟩ (.int .i64 (N : Int)))) := hide (HB.out.setCell (by simp) _)
        have HR2 : Hid (Bytes (wo.setCell ⟨w.heap.size + 1, k, none⟩ (.int .i64 (N : Int))) w.heap.size A n r) := by
          refine hide (HR.out.keep fun p hp => ?_)
          exact World.cell?_of_block (w := wo) (Below.heap_setCell wo _ _ p.block (by simp; omega))
        have HCut : Hid (Bytes (wo.setCell ⟨w.heap.size + 1, k, none⟩ (.int .i64 (N : Int))) w.heap.size (if c = K then A else A.map (·.add K)) (n - K) (r.drop K)) := by
          have h := HR2.out.bcut (k := K) (m := n) (cap := c) hkn (Nat.le_refl _) hc
          rw [List.take_of_length_le (by rw [List.length_drop, HL.out]; exact Nat.le_refl _)] at h
          exact hide h
        by_cases hck : c = K
        · have hnk : n = K := by omega
          subst hnk
          go_wp2_with fail
          go_roundw
          case rel =>
            have h := HCut.out
            rw [if_pos hck, Nat.sub_self] at h
            exact ⟨k + 1, 0, _, _, _, _, by omega, by go_num, rfl, by omega, by omega, by have := HM.out; omega, h, by simp [HFl.out], HFN.out, HInv2.out, HBf2.out, HBz2.out, HB2.out⟩
          case measure => simp [intOf]; omega
        · go_wp2_with fail
          go_roundw
          case rel =>
            have h := HCut.out
            rw [if_neg hck] at h
            exact ⟨k + 1, n - K, _, _, _, _, by omega, by go_num, rfl, by omega, by omega, by have := HM.out; omega, h, by simp [HFl.out], HFN.out, HInv2.out, HBf2.out, HBz2.out, HB2.out⟩
          case measure => simp [intOf]; omega
      · have HG := Lib.hid hg
        have HNo : Hid (∀ L tl, ¬ Enc8 body L tl) := hide (inv_bad HInv.out hlt hg (.inl hE))
        have hb : ((E : Int) != 0) = true := by rw [bne_iff_ne]; omega
        clear hg hE
        go_wp2_with fail
        with_reducible refine (get_any 0 0 E _ _ _ _ _ _ HR.out HG.out).mono ?_
        rintro e w' ⟨rfl, rfl⟩
        go_wp2_with
          (refine wpList_store_blk rfl 24 (.tmp 2) (.tmp 23) rfl w.heap.size #[.int .i64 0, .int .i64 0, .int .i64 0, .int .i64 0, .int .i64 0, .int .i64 0, .int .i64 0, .int .i64 0, .int .u64 0] rfl rfl _ _ HBz.out (by kernel_rfl) rfl (by decide +kernel) ?_
           intro w5 HBz5 hon5
           have HZ5 := Lib.hid HBz5
           have HB5 := Lib.hid (hon5.below HB.out (Nat.le_refl _))
           clear HBz5 hon5)
        refine bodyPost_ret (v := .tuple #[.agg #[.int .i64 0, .int .i64 0, .int .i64 0, .int .i64 0, .int .i64 0, .int .i64 0, .int .i64 0, .int .i64 0, .int .u64 0], .bool false]) (results_cell_row_tmp rfl _ _ w.heap.size 24 _ _ _ rfl rfl HZ5.out Try.underlying24 rfl (by kernel_rfl)) rfl ?_
        exact parse_bad HNo.out HB5.out
    · obtain rfl : k = 8 := by omega
      by_cases h8 : n = 8
      · subst h8
        obtain ⟨f0, f1, f2, f3, f4, f5, f6, f7, rfl⟩ := list_len8 f HFl.out
        have b3 := HFb.out f3 (by simp)
        have b5 := HFb.out f5 (by simp)
        have b7 := HFb.out f7 (by simp)
        have HBf8 : Hid (Blk wo (w.heap.size + 1) 47 #[.int .i64 f0, .int .i64 f1, .int .i64 f2, .int .i64 f3, .int .i64 f4, .int .i64 f5, .int .i64 f6, .int .i64 f7]) := hide HBf.out
        have c0 : wo.cell? ⟨w.heap.size + 1, 0, none⟩ = some (.int .i64 f0) := HBf8.out.cell 0
        have c1 : wo.cell? ⟨w.heap.size + 1, 1, none⟩ = some (.int .i64 f1) := HBf8.out.cell 1
        have c2 : wo.cell? ⟨w.heap.size + 1, 2, none⟩ = some (.int .i64 f2) := HBf8.out.cell 2
        have c3 : wo.cell? ⟨w.heap.size + 1, 3, none⟩ = some (.int .i64 f3) := HBf8.out.cell 3
        have c4 : wo.cell? ⟨w.heap.size + 1, 4, none⟩ = some (.int .i64 f4) := HBf8.out.cell 4
        have c5 : wo.cell? ⟨w.heap.size + 1, 5, none⟩ = some (.int .i64 f5) := HBf8.out.cell 5
        have c6 : wo.cell? ⟨w.heap.size + 1, 6, none⟩ = some (.int .i64 f6) := HBf8.out.cell 6
        have c7 : wo.cell? ⟨w.heap.size + 1, 7, none⟩ = some (.int .i64 f7) := HBf8.out.cell 7
        go_wp2_with fail
        go_loop [9, 37] (fun s i => ∃ j : Nat, j ≤ 8 ∧ i = .int .i64 j ∧ s = .int .u64 ((de8 (r.take j) : Nat) : Int)) (fun _ i => 8 - (intOf i).toNat)
        case atStart => exact ⟨0, by omega, rfl, rfl⟩
        case round =>
          obtain ⟨j, hj, rfl, rfl⟩ := hrel
          by_cases hj8 : j < 8
          · obtain ⟨ad, rfl, _, hcx⟩ := HR.out.byte hj8
            have HDN := Lib.hid (de8_next r j (by rw [HL.out]; exact hj8))
            have hS : de8 (r.take j) < 72057594037927936 := by
              have h := de8_lt (r.take j)
              have h2 : (r.take j).length ≤ 7 := by simp; omega
              have h3 := Nat.pow_le_pow_right (show 0 < 256 by omega) h2
              have h4 : (256 : Nat) ^ 7 = 72057594037927936 := by decide
              omega
            have hx := UInt8.toNat_lt (r.getD j 0)
            obtain ⟨S, hSe⟩ : ∃ S, de8 (r.take j) = S := ⟨_, rfl⟩
            obtain ⟨x, hxe⟩ : ∃ x, (r.getD j 0).toNat = x := ⟨_, rfl⟩
            rw [hSe] at hS HDN ⊢
            rw [hxe] at hx HDN hcx
            have ho := or8_form S x hS hx
            have HSe := Lib.hid hSe
            have HXe := Lib.hid hxe
            clear hSe hxe
            go_wp2_with fail
            go_round
            case rel => exact ⟨j + 1, by omega, by go_num, by rw [HDN.out]; congr 1⟩
            case measure => simp [intOf]; omega
          · obtain rfl : j = 8 := by omega
            have hT : de8 (r.take 8) < 18446744073709551616 := by
              have h := de8_lt (r.take 8)
              have h2 : (r.take 8).length ≤ 8 := by simp; omega
              have h3 := Nat.pow_le_pow_right (show 0 < 256 by omega) h2
              have h4 : (256 : Nat) ^ 8 = 18446744073709551616 := by decide
              omega
            have HTe : Hid (r.length = 8 → de8 (r.take 8) = de8 r) := fun h => by rw [List.take_of_length_le (by omega)]
            generalize de8 (r.take 8) = T at *
            go_wp2_with
              (refine wpList_store_blk rfl 24 (.tmp 2) (.tmp 67) rfl w.heap.size #[.int .i64 f0, .int .i64 f1, .int .i64 f2, .int .i64 (f3 - 1), .int .i64 f4, .int .i64 (f5 - 1), .int .i64 f6, .int .i64 (f7 - 1), .int .u64 (T : Int)] rfl rfl _ _ HBz.out (by kernel_rfl) rfl (by simp [Value.oneCell']) ?_
               intro w5 HBz5 hon5
               have HZ5 := Lib.hid HBz5
               have HB5 := Lib.hid (hon5.below HB.out (Nat.le_refl _))
               clear HBz5 hon5)
            refine bodyPost_ret (v := .tuple #[.agg #[.int .i64 f0, .int .i64 f1, .int .i64 f2, .int .i64 (f3 - 1), .int .i64 f4, .int .i64 (f5 - 1), .int .i64 f6, .int .i64 (f7 - 1), .int .u64 (T : Int)], .bool true]) (results_cell_row_tmp rfl _ _ w.heap.size 24 _ _ _ rfl rfl HZ5.out Try.underlying24 rfl (by kernel_rfl)) rfl ?_
            exact ⟨mkM [f0, f1, f2, f3, f4, f5, f6, f7] T, true, T, rfl, rfl, hT, parse_end HInv.out T HTe.out, HB5.out⟩
      · have HNo : Hid (∀ L tl, ¬ Enc8 body L tl) := hide (parse_short HInv.out (by rw [HL.out]; exact h8))
        have hb : ((n : Int) != 8) = true := by rw [bne_iff_ne]; omega
        have hb2 : (n != 8) = true := by rw [bne_iff_ne]; omega
        go_wp2_with
          (refine wpList_store_blk rfl 24 (.tmp 2) (.tmp 34) rfl w.heap.size #[.int .i64 0, .int .i64 0, .int .i64 0, .int .i64 0, .int .i64 0, .int .i64 0, .int .i64 0, .int .i64 0, .int .u64 0] rfl rfl _ _ HBz.out (by kernel_rfl) rfl (by decide +kernel) ?_
           intro w5 HBz5 hon5
           have HZ5 := Lib.hid HBz5
           have HB5 := Lib.hid (hon5.below HB.out (Nat.le_refl _))
           clear HBz5 hon5)
        refine bodyPost_ret (v := .tuple #[.agg #[.int .i64 0, .int .i64 0, .int .i64 0, .int .i64 0, .int .i64 0, .int .i64 0, .int .i64 0, .int .i64 0, .int .u64 0], .bool false]) (results_cell_row_tmp rfl _ _ w.heap.size 24 _ _ _ rfl rfl HZ5.out Try.underlying24 rfl (by kernel_rfl)) rfl ?_
        exact parse_bad HNo.out HB5.out
end Go.Proofs.Ythlhphifibldnaa
