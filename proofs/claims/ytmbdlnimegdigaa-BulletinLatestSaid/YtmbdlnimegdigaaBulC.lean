/-
  Current of chapter 49 and of its reference, walked.
-/
import Derived.Test.YtmbdlnimegdigaaBulZ
import Derived.Test.YtmbdlnimegdigaaReg
import Derived.IntWalk
namespace Go.Proofs.Ytmbdlnimegdigaa
open Go.RowKit

set_option maxRecDepth 100000 in
set_option maxHeartbeats 2000000 in
theorem cur_any (A : Option Addr) (n c : Nat) (bs : List Bu) (t : Int) (w : World) (hr : Buls w w.heap.size A n bs) (hn : n ≤ maxLen) :
    Calls Try.prog 17 #[.slice A n c, .int .i64 t] w fun e w' => e = .returned (.int .i64 (curN bs t)) ∧ Below w.heap.size w w' := by
  unfold maxLen at hn
  have HR := Lib.hid hr
  have HL := Lib.hid hr.len
  clear hr
  go_enter Try.func17, Try.ntmps17
  go_wp2_with fail
  go_loopw [5, 10] (fun v i wr => ∃ (k : Nat), k ≤ n ∧ i = .int .i64 k ∧ v = .int .i64 (curF t 0 (bs.take k)) ∧ Below w.heap.size w wr) (fun _ i _ => n - (intOf i).toNat)
  case atStart => exact ⟨0, by omega, rfl, rfl, Below.refl _ _⟩
  case round =>
    obtain ⟨k, hk, rfl, rfl, hbr⟩ := hrel
    obtain ⟨wo, rfl⟩ : ∃ wo : World, wo = wr := ⟨_, rfl⟩
    have HB := Lib.hid hbr
    have hsz := hbr.size
    clear hbr
    by_cases hlt : k < n
    · skip
      obtain ⟨ad, z, rfl, hab, hcs, hrow⟩ := (HR.out.below HB.out).at_ hlt
      have HTk := Lib.hid (bu_take bs k (by rw [HL.out]; exact hlt))
      have HSn := Lib.hid (curF_snoc t 0 (bs.take k) (bs.getD k ⟨0, 0, 0, 0, 0, 0, []⟩))
      rw [← HTk.out] at HSn
      generalize bs.getD k ⟨0, 0, 0, 0, 0, 0, []⟩ = b at *
      obtain ⟨ver, fr, ti, lo, hi, lev, zs⟩ := b
      obtain ⟨A2, c2, rfl, hz1, hz2, hzr⟩ := hrow
      obtain ⟨n2, hn2⟩ : ∃ n2, zs.length = n2 := ⟨_, rfl⟩
      rw [hn2] at hz1 hzr hcs
      have HCs := Lib.hid hcs
      have HZr := Lib.hid hzr
      have HM2 := Lib.hid (Nat.le_trans hz1 hz2)
      clear hcs hzr hn2 hz2
      generalize curF t 0 (bs.take k) = v at *
      cases hq : hasB ⟨ver, fr, ti, lo, hi, lev, zs⟩ t with
      | true =>
        have HH : Hid (hasB ⟨ver, fr, ti, lo, hi, lev, zs⟩ t = true) := hide hq
        clear hq
        go_wp2_with
          (first
           | (refine wpList_load_at 31 (.tmp 12) rfl rfl (ad.add (k * 7)) rfl [.int .i64 ver, .int .i64 fr, .int .i64 ti, .int .i64 lo, .int .i64 hi, .slice A2 n2 c2, .int .i64 lev] HCs.out _ Try.underlying31 rfl (by kernel_rfl) ?_)
           | (refine wpList_store_blk rfl 31 (.tmp 7) (.tmp 13) rfl wo.heap.size #[.int .i64 ver, .int .i64 fr, .int .i64 ti, .int .i64 lo, .int .i64 hi, .slice A2 n2 c2, .int .i64 lev] rfl rfl _ _ (Blk.new wo 31 #[.int .i64 0, .int .i64 0, .int .i64 0, .int .i64 0, .int .i64 0, .slice none 0 0, .int .i64 0]) (by kernel_rfl) rfl (by simp [Value.oneCell']) ?_
              intro w1 hx1 hon1
              have hb1 := hon1.below (below_new wo (.cells #[.int .i64 0, .int .i64 0, .int .i64 0, .int .i64 0, .int .i64 0, .slice none 0 0, .int .i64 0] 31)) (Nat.le_refl _)
              have HB1 := Lib.hid hb1
              have HX1 := Lib.hid hx1
              have hl1 : wo.heap.size < w1.heap.size := hx1.lt
              have HBB1 := Lib.hid (HB.out.trans (HB1.out.mono hsz))
              have e0 : w1.cell? ⟨wo.heap.size, 0, none⟩ = some (.int .i64 ver) := HX1.out.cell 0
              have e1 : w1.cell? ⟨wo.heap.size, 1, none⟩ = some (.int .i64 fr) := HX1.out.cell 1
              have e2 : w1.cell? ⟨wo.heap.size, 2, none⟩ = some (.int .i64 ti) := HX1.out.cell 2
              have e3 : w1.cell? ⟨wo.heap.size, 3, none⟩ = some (.int .i64 lo) := HX1.out.cell 3
              have e4 : w1.cell? ⟨wo.heap.size, 4, none⟩ = some (.int .i64 hi) := HX1.out.cell 4
              have e5 : w1.cell? ⟨wo.heap.size, 5, none⟩ = some (.slice A2 n2 c2) := HX1.out.cell 5
              have e6 : w1.cell? ⟨wo.heap.size, 6, none⟩ = some (.int .i64 lev) := HX1.out.cell 6
              clear hx1 hon1 hb1))
        have HC : Hid (∀ W : World, Calls Try.prog 30 #[.agg #[.int .i64 fr, .int .i64 ti], .int .i64 t] W fun e w' => e = .returned (.bool true) ∧ Below W.heap.size W w') := by
          intro W
          have h := has_any fr ti t W
          rw [show (decide (fr ≤ t) && decide (t < ti)) = true from HH.out] at h
          exact h
        with_reducible refine (HC.out _).mono ?_
        rintro e w2 ⟨rfl, hb2⟩
        have HBB2 := Lib.hid (HBB1.out.trans (hb2.mono HBB1.out.size))
        have HX2 := Lib.hid (HX1.out.below hb2 hl1)
        clear hb2
        have f0 : w2.cell? ⟨wo.heap.size, 0, none⟩ = some (.int .i64 ver) := HX2.out.cell 0
        have f1 : w2.cell? ⟨wo.heap.size, 1, none⟩ = some (.int .i64 fr) := HX2.out.cell 1
        have f2 : w2.cell? ⟨wo.heap.size, 2, none⟩ = some (.int .i64 ti) := HX2.out.cell 2
        have f3 : w2.cell? ⟨wo.heap.size, 3, none⟩ = some (.int .i64 lo) := HX2.out.cell 3
        have f4 : w2.cell? ⟨wo.heap.size, 4, none⟩ = some (.int .i64 hi) := HX2.out.cell 4
        have f5 : w2.cell? ⟨wo.heap.size, 5, none⟩ = some (.slice A2 n2 c2) := HX2.out.cell 5
        have f6 : w2.cell? ⟨wo.heap.size, 6, none⟩ = some (.int .i64 lev) := HX2.out.cell 6
        by_cases hv : v < ver
        · have HN : Hid (curF t 0 (bs.take (k + 1)) = ver) := hide (HSn.out.trans (if_pos ⟨HH.out, hv⟩))
          have dm : max v ver = ver := by omega
          go_wp2_with fail
          go_roundw
          case rel => exact ⟨k + 1, by omega, by go_num, by rw [HN.out], HBB2.out⟩
          case measure => simp [intOf]; omega
        · have HN : Hid (curF t 0 (bs.take (k + 1)) = v) := hide (HSn.out.trans (if_neg (fun h => hv h.2)))
          have dm : max v ver = v := by omega
          have dv : decide (v < ver) = false := by simpa using hv
          go_wp2_with fail
          go_roundw
          case rel => exact ⟨k + 1, by omega, by go_num, by rw [HN.out], HBB2.out⟩
          case measure => simp [intOf]; omega
      | false =>
        have HH : Hid (hasB ⟨ver, fr, ti, lo, hi, lev, zs⟩ t = false) := hide hq
        clear hq
        go_wp2_with
          (first
           | (refine wpList_load_at 31 (.tmp 12) rfl rfl (ad.add (k * 7)) rfl [.int .i64 ver, .int .i64 fr, .int .i64 ti, .int .i64 lo, .int .i64 hi, .slice A2 n2 c2, .int .i64 lev] HCs.out _ Try.underlying31 rfl (by kernel_rfl) ?_)
           | (refine wpList_store_blk rfl 31 (.tmp 7) (.tmp 13) rfl wo.heap.size #[.int .i64 ver, .int .i64 fr, .int .i64 ti, .int .i64 lo, .int .i64 hi, .slice A2 n2 c2, .int .i64 lev] rfl rfl _ _ (Blk.new wo 31 #[.int .i64 0, .int .i64 0, .int .i64 0, .int .i64 0, .int .i64 0, .slice none 0 0, .int .i64 0]) (by kernel_rfl) rfl (by simp [Value.oneCell']) ?_
              intro w1 hx1 hon1
              have hb1 := hon1.below (below_new wo (.cells #[.int .i64 0, .int .i64 0, .int .i64 0, .int .i64 0, .int .i64 0, .slice none 0 0, .int .i64 0] 31)) (Nat.le_refl _)
              have HB1 := Lib.hid hb1
              have HX1 := Lib.hid hx1
              have hl1 : wo.heap.size < w1.heap.size := hx1.lt
              have HBB1 := Lib.hid (HB.out.trans (HB1.out.mono hsz))
              have e0 : w1.cell? ⟨wo.heap.size, 0, none⟩ = some (.int .i64 ver) := HX1.out.cell 0
              have e1 : w1.cell? ⟨wo.heap.size, 1, none⟩ = some (.int .i64 fr) := HX1.out.cell 1
              have e2 : w1.cell? ⟨wo.heap.size, 2, none⟩ = some (.int .i64 ti) := HX1.out.cell 2
              have e3 : w1.cell? ⟨wo.heap.size, 3, none⟩ = some (.int .i64 lo) := HX1.out.cell 3
              have e4 : w1.cell? ⟨wo.heap.size, 4, none⟩ = some (.int .i64 hi) := HX1.out.cell 4
              have e5 : w1.cell? ⟨wo.heap.size, 5, none⟩ = some (.slice A2 n2 c2) := HX1.out.cell 5
              have e6 : w1.cell? ⟨wo.heap.size, 6, none⟩ = some (.int .i64 lev) := HX1.out.cell 6
              clear hx1 hon1 hb1))
        have HC : Hid (∀ W : World, Calls Try.prog 30 #[.agg #[.int .i64 fr, .int .i64 ti], .int .i64 t] W fun e w' => e = .returned (.bool false) ∧ Below W.heap.size W w') := by
          intro W
          have h := has_any fr ti t W
          rw [show (decide (fr ≤ t) && decide (t < ti)) = false from HH.out] at h
          exact h
        with_reducible refine (HC.out _).mono ?_
        rintro e w2 ⟨rfl, hb2⟩
        have HBB2 := Lib.hid (HBB1.out.trans (hb2.mono HBB1.out.size))
        have HX2 := Lib.hid (HX1.out.below hb2 hl1)
        clear hb2
        have f0 : w2.cell? ⟨wo.heap.size, 0, none⟩ = some (.int .i64 ver) := HX2.out.cell 0
        have f1 : w2.cell? ⟨wo.heap.size, 1, none⟩ = some (.int .i64 fr) := HX2.out.cell 1
        have f2 : w2.cell? ⟨wo.heap.size, 2, none⟩ = some (.int .i64 ti) := HX2.out.cell 2
        have f3 : w2.cell? ⟨wo.heap.size, 3, none⟩ = some (.int .i64 lo) := HX2.out.cell 3
        have f4 : w2.cell? ⟨wo.heap.size, 4, none⟩ = some (.int .i64 hi) := HX2.out.cell 4
        have f5 : w2.cell? ⟨wo.heap.size, 5, none⟩ = some (.slice A2 n2 c2) := HX2.out.cell 5
        have f6 : w2.cell? ⟨wo.heap.size, 6, none⟩ = some (.int .i64 lev) := HX2.out.cell 6
        have HN : Hid (curF t 0 (bs.take (k + 1)) = v) := hide (HSn.out.trans (if_neg (fun h => by rw [HH.out] at h; cases h.1)))
        go_wp2_with fail
        go_roundw
        case rel => exact ⟨k + 1, by omega, by go_num, by rw [HN.out], HBB2.out⟩
        case measure => simp [intOf]; omega
    · obtain rfl : k = n := by omega
      rw [List.take_of_length_le (by rw [HL.out]; exact Nat.le_refl _)]
      go_wp2_with fail
      go_ret
      exact ⟨rfl, HB.out⟩
set_option maxRecDepth 100000 in
set_option maxHeartbeats 2000000 in
theorem rcur_any (A : Option Addr) (n c : Nat) (bs : List Bu) (t : Int) (w : World) (hr : Buls w w.heap.size A n bs) (hn : n ≤ maxLen) :
    Calls Try.prog 18 #[.slice A n c, .int .i64 t] w fun e w' => e = .returned (.int .i64 (curN bs t)) ∧ Below w.heap.size w w' := by
  unfold maxLen at hn
  have HR := Lib.hid hr
  have HL := Lib.hid hr.len
  clear hr
  go_enter Try.func18, Try.ntmps18
  go_wp2_with fail
  go_loopw [5, 6] (fun v i wr => ∃ (k : Nat), k ≤ n ∧ i = .int .i64 k ∧ v = .int .i64 (curF t 0 (bs.take k)) ∧ Below w.heap.size w wr) (fun _ i _ => n - (intOf i).toNat)
  case atStart => exact ⟨0, by omega, rfl, rfl, Below.refl _ _⟩
  case round =>
    obtain ⟨k, hk, rfl, rfl, hbr⟩ := hrel
    obtain ⟨wo, rfl⟩ : ∃ wo : World, wo = wr := ⟨_, rfl⟩
    have HB := Lib.hid hbr
    have hsz := hbr.size
    clear hbr
    by_cases hlt : k < n
    · skip
      obtain ⟨ad, z, rfl, hab, hcs, hrow⟩ := (HR.out.below HB.out).at_ hlt
      have HTk := Lib.hid (bu_take bs k (by rw [HL.out]; exact hlt))
      have HSn := Lib.hid (curF_snoc t 0 (bs.take k) (bs.getD k ⟨0, 0, 0, 0, 0, 0, []⟩))
      rw [← HTk.out] at HSn
      generalize bs.getD k ⟨0, 0, 0, 0, 0, 0, []⟩ = b at *
      obtain ⟨ver, fr, ti, lo, hi, lev, zs⟩ := b
      obtain ⟨A2, c2, rfl, hz1, hz2, hzr⟩ := hrow
      obtain ⟨n2, hn2⟩ : ∃ n2, zs.length = n2 := ⟨_, rfl⟩
      rw [hn2] at hz1 hzr hcs
      have HCs := Lib.hid hcs
      have HZr := Lib.hid hzr
      have HM2 := Lib.hid (Nat.le_trans hz1 hz2)
      clear hcs hzr hn2 hz2
      generalize curF t 0 (bs.take k) = v at *
      cases hq : hasB ⟨ver, fr, ti, lo, hi, lev, zs⟩ t with
      | true =>
        have HH : Hid (hasB ⟨ver, fr, ti, lo, hi, lev, zs⟩ t = true) := hide hq
        clear hq
        go_wp2_with
          (refine wpList_load_at 31 (.tmp 15) rfl rfl (ad.add (k * 7)) rfl [.int .i64 ver, .int .i64 fr, .int .i64 ti, .int .i64 lo, .int .i64 hi, .slice A2 n2 c2, .int .i64 lev] HCs.out _ Try.underlying31 rfl (by kernel_rfl) ?_)
        have HC : Hid (∀ W : World, Calls Try.prog 31 #[.agg #[.int .i64 ver, .int .i64 fr, .int .i64 ti, .int .i64 lo, .int .i64 hi, .slice A2 n2 c2, .int .i64 lev], .int .i64 t] W fun e w' => e = .returned (.bool true) ∧ Below W.heap.size W w') := by
          intro W
          have h := covers_any ⟨ver, fr, ti, lo, hi, lev, zs⟩ (.slice A2 n2 c2) rfl t W
          rw [HH.out] at h
          exact h
        with_reducible refine (HC.out _).mono ?_
        rintro e w2 ⟨rfl, hb2⟩
        have HBB2 := Lib.hid (HB.out.trans (hb2.mono hsz))
        have f0 : w2.cell? (ad.add (k * 7)) = some (.int .i64 ver) := by
          have h := HCs.out 0 _ rfl
          rw [show (ad.add (k * 7)).add 0 = ad.add (k * 7) by unfold Addr.add; simp] at h
          exact (hb2.cell (by rw [block_of_add]; exact Nat.lt_of_lt_of_le hab hsz)).trans h
        clear hb2
        by_cases hv : v < ver
        · have HN : Hid (curF t 0 (bs.take (k + 1)) = ver) := hide (HSn.out.trans (if_pos ⟨HH.out, hv⟩))
          have dm : max v ver = ver := by omega
          go_wp2_with fail
          go_roundw
          case rel => exact ⟨k + 1, by omega, by go_num, by rw [HN.out], HBB2.out⟩
          case measure => simp [intOf]; omega
        · have HN : Hid (curF t 0 (bs.take (k + 1)) = v) := hide (HSn.out.trans (if_neg (fun h => hv h.2)))
          have dm : max v ver = v := by omega
          have dv : decide (v < ver) = false := by simpa using hv
          go_wp2_with fail
          go_roundw
          case rel => exact ⟨k + 1, by omega, by go_num, by rw [HN.out], HBB2.out⟩
          case measure => simp [intOf]; omega
      | false =>
        have HH : Hid (hasB ⟨ver, fr, ti, lo, hi, lev, zs⟩ t = false) := hide hq
        clear hq
        go_wp2_with
          (refine wpList_load_at 31 (.tmp 15) rfl rfl (ad.add (k * 7)) rfl [.int .i64 ver, .int .i64 fr, .int .i64 ti, .int .i64 lo, .int .i64 hi, .slice A2 n2 c2, .int .i64 lev] HCs.out _ Try.underlying31 rfl (by kernel_rfl) ?_)
        have HC : Hid (∀ W : World, Calls Try.prog 31 #[.agg #[.int .i64 ver, .int .i64 fr, .int .i64 ti, .int .i64 lo, .int .i64 hi, .slice A2 n2 c2, .int .i64 lev], .int .i64 t] W fun e w' => e = .returned (.bool false) ∧ Below W.heap.size W w') := by
          intro W
          have h := covers_any ⟨ver, fr, ti, lo, hi, lev, zs⟩ (.slice A2 n2 c2) rfl t W
          rw [HH.out] at h
          exact h
        with_reducible refine (HC.out _).mono ?_
        rintro e w2 ⟨rfl, hb2⟩
        have HBB2 := Lib.hid (HB.out.trans (hb2.mono hsz))
        have f0 : w2.cell? (ad.add (k * 7)) = some (.int .i64 ver) := by
          have h := HCs.out 0 _ rfl
          rw [show (ad.add (k * 7)).add 0 = ad.add (k * 7) by unfold Addr.add; simp] at h
          exact (hb2.cell (by rw [block_of_add]; exact Nat.lt_of_lt_of_le hab hsz)).trans h
        clear hb2
        have HN : Hid (curF t 0 (bs.take (k + 1)) = v) := hide (HSn.out.trans (if_neg (fun h => by rw [HH.out] at h; cases h.1)))
        go_wp2_with fail
        go_roundw
        case rel => exact ⟨k + 1, by omega, by go_num, by rw [HN.out], HBB2.out⟩
        case measure => simp [intOf]; omega
    · obtain rfl : k = n := by omega
      rw [List.take_of_length_le (by rw [HL.out]; exact Nat.le_refl _)]
      go_wp2_with fail
      go_ret
      exact ⟨rfl, HB.out⟩
end Go.Proofs.Ytmbdlnimegdigaa
