/-
  Decode of chapter 25 and of its reference, walked.
-/
import Derived.Test.YthlhphifibldnaaCodecV
import Derived.Test.YthlhphifibldnaaMedP
import Derived.Test.YthlhphifibldnaaMedR
import Derived.Test.YthlhphifibldnaaMedY
import Derived.Test.YthlhphifibldnaaMedE
import Derived.Test.YthlhphifibldnaaMedF
import Derived.Test.YthlhphifibldnaaMedG
import Derived.Test.YthlhphifibldnaaMedD
import Derived.Test.YthlhphifibldnaaStr
import Derived.Test.YthlhphifibldnaaReg
namespace Go.Proofs.Ythlhphifibldnaa
open Go.RowKit

/-- what Decode returns -/
def DecR (l : List UInt8) (w : World) (e : Ending) (w' : World) : Prop := ∃ (m : Med) (r : Int), e = .returned (.tuple #[.agg #[.int .i64 m.ser, .int .i64 m.cnt, .int .i64 m.prd, .int .i64 m.fst, .int .i64 m.lft, .int .i64 m.tdy, .int .i64 m.lif, .int .i64 m.at_, .int .u64 m.tag], .int .i64 r]) ∧ DecP l m r ∧ Below w.heap.size w w'
theorem decR_zero {l : List UInt8} {w w' : World} {r : Int} (h : DecP l zeroM r) (hb : Below w.heap.size w w') : DecR l w (.returned (.tuple #[.agg #[.int .i64 0, .int .i64 0, .int .i64 0, .int .i64 0, .int .i64 0, .int .i64 0, .int .i64 0, .int .i64 0, .int .u64 0], .int .i64 r])) w' := ⟨zeroM, r, rfl, h, hb⟩

set_option maxRecDepth 100000 in
set_option maxHeartbeats 4000000 in
theorem decode_any (A : Option Addr) (n c : Nat) (l : List UInt8) (w : World) (hr : Bytes w w.heap.size A n l) (hn : n ≤ 1000000) (hc : n ≤ c) (hc2 : c ≤ maxLen) :
    Calls Try.prog 24 #[.slice A n c] w (DecR l w) := by
  have HR := Lib.hid hr
  have HL := Lib.hid hr.blen
  have HM := Lib.hid hc2
  clear hr hc2
  obtain ⟨body, k, E, hu⟩ : ∃ body k E, unfG l = (body, k, E) := ⟨_, _, _, rfl⟩
  have HU := Lib.hid hu
  clear hu
  go_enter Try.func24, Try.ntmps24
  go_wp2_with fail
  have HBw0 := (Blk.new w 24 #[.int .i64 0, .int .i64 0, .int .i64 0, .int .i64 0, .int .i64 0, .int .i64 0, .int .i64 0, .int .i64 0, .int .u64 0])
  have HLw0 := (below_new w (.cells #[.int .i64 0, .int .i64 0, .int .i64 0, .int .i64 0, .int .i64 0, .int .i64 0, .int .i64 0, .int .i64 0, .int .u64 0] 24))
  have hsw0 : (w.alloc (.cells #[.int .i64 0, .int .i64 0, .int .i64 0, .int .i64 0, .int .i64 0, .int .i64 0, .int .i64 0, .int .i64 0, .int .u64 0] 24)).heap.size = w.heap.size + 1 := by simp
  generalize w.alloc (.cells #[.int .i64 0, .int .i64 0, .int .i64 0, .int .i64 0, .int .i64 0, .int .i64 0, .int .i64 0, .int .i64 0, .int .u64 0] 24) = w0 at HBw0 HLw0 hsw0 ⊢
  replace HBw0 := Lib.hid HBw0
  replace HLw0 := Lib.hid HLw0
  have hlw0 : w.heap.size < w0.heap.size := by omega
  replace hsw0 := Lib.hid hsw0
  have HR0 := Lib.hid (HR.out.now HLw0.out)
  with_reducible refine (unf_any _ _ _ _ body k E _ HR0.out (by omega) hc HM.out HU.out).mono ?_
  rintro e w1 ⟨v1, rfl, hown1, hb1⟩
  obtain ⟨A1, n1, c1, rfl, HN1, hc11, hc12, hr1⟩ := hown1.nam
  have HV1 := Lib.hid hr1
  have HM1 := Lib.hid hc12
  have hl1 : w.heap.size < w1.heap.size := Nat.lt_of_lt_of_le hlw0 hb1.size
  have HB1 := Lib.hid (HLw0.out.trans (hb1.mono HLw0.out.size))
  have HBz1 := Lib.hid (HBw0.out.below hb1 hlw0)
  have HR1 := Lib.hid (HR0.out.now hb1)
  clear hown1 hb1 hr1 hc12
  by_cases hE : E = 0
  · subst hE
    obtain ⟨hk, hb6⟩ : k ≤ n ∧ n1 ≤ 65536 := by
      obtain ⟨_, h2, h3, _⟩ := unfG_form HU.out
      rw [HL.out] at h2
      rw [HN1.out] at h3
      exact ⟨h2, h3⟩
    by_cases hkn : k < n
    · have d3 : decide ((k : Int) < (n : Int)) = true := by simp; omega
      go_wp2_with
        (refine wpList_store_blk rfl 24 (.tmp 2) (.tmp 23) rfl w.heap.size #[.int .i64 0, .int .i64 0, .int .i64 0, .int .i64 0, .int .i64 0, .int .i64 0, .int .i64 0, .int .i64 0, .int .u64 0] rfl rfl _ _ HBz1.out (by kernel_rfl) rfl (by decide +kernel) ?_
         intro w5 HBz5 hon5
         have HZ5 := Lib.hid HBz5
         have HB5 := Lib.hid (hon5.below HB1.out (Nat.le_refl _))
         clear HBz5 hon5)
      refine bodyPost_ret (results_cell_row_tmp rfl _ _ w.heap.size 24 _ _ _ rfl rfl HZ5.out Try.underlying24 rfl (by kernel_rfl)) rfl ?_
      exact decR_zero (dec_long HU.out rfl (by rw [HL.out]; exact hkn)) HB5.out
    · have hkn2 : k = n := by omega
      have HK : Hid (k = l.length) := by show _ = _; rw [HL.out]; exact hkn2
      clear hkn2
      go_wp2_with fail
      with_reducible refine (parse_any _ _ _ body _ HV1.out (by omega) hc11 HM1.out).mono ?_
      rintro e w2 ⟨m, ok, T, rfl, ht, hT, hp, hb2⟩
      have hl2 : w.heap.size < w2.heap.size := Nat.lt_of_lt_of_le hl1 hb2.size
      have HB2 := Lib.hid (HB1.out.trans (hb2.mono HB1.out.size))
      have HBz2 := Lib.hid (HBz1.out.below hb2 hl1)
      have HR2 := Lib.hid (HR1.out.now hb2)
      have HP := Lib.hid hp
      clear hb2 hp
      obtain ⟨ser, cnt, prd, fst, lft, tdy, lif, at_, tag⟩ := m
      simp only at ht
      subst ht
      have HT := Lib.hid hT
      clear hT
      cases ok with
      | false =>
        go_wp2_with
          (first
           | (refine wpList_store_blk rfl 24 (.tmp 7) (.tmp 27) rfl w2.heap.size #[.int .i64 ser, .int .i64 cnt, .int .i64 prd, .int .i64 fst, .int .i64 lft, .int .i64 tdy, .int .i64 lif, .int .i64 at_, .int .u64 (T : Int)] rfl rfl _ _ (Blk.new w2 24 #[.int .i64 0, .int .i64 0, .int .i64 0, .int .i64 0, .int .i64 0, .int .i64 0, .int .i64 0, .int .i64 0, .int .u64 0]) (by kernel_rfl) rfl (by simp [Value.oneCell']) ?_
              intro w3 hx3 hon3
              have hb3 := hon3.below (below_new w2 (.cells #[.int .i64 0, .int .i64 0, .int .i64 0, .int .i64 0, .int .i64 0, .int .i64 0, .int .i64 0, .int .i64 0, .int .u64 0] 24)) (Nat.le_refl _)
              have HX3 := Lib.hid hx3
              have HB3 := Lib.hid (HB2.out.trans (hb3.mono HB2.out.size))
              have HBz3 := Lib.hid (HBz2.out.below hb3 hl2)
              have HR3 := Lib.hid (HR2.out.now hb3)
              have hl3 : w2.heap.size < w3.heap.size := hx3.lt
              have c0 : w3.cell? ⟨w2.heap.size, 0, none⟩ = some (.int .i64 ser) := HX3.out.cell 0
              have c1 : w3.cell? ⟨w2.heap.size, 1, none⟩ = some (.int .i64 cnt) := HX3.out.cell 1
              have c2 : w3.cell? ⟨w2.heap.size, 2, none⟩ = some (.int .i64 prd) := HX3.out.cell 2
              have c3 : w3.cell? ⟨w2.heap.size, 3, none⟩ = some (.int .i64 fst) := HX3.out.cell 3
              have c4 : w3.cell? ⟨w2.heap.size, 4, none⟩ = some (.int .i64 lft) := HX3.out.cell 4
              have c5 : w3.cell? ⟨w2.heap.size, 5, none⟩ = some (.int .i64 tdy) := HX3.out.cell 5
              have c6 : w3.cell? ⟨w2.heap.size, 6, none⟩ = some (.int .i64 lif) := HX3.out.cell 6
              have c7 : w3.cell? ⟨w2.heap.size, 7, none⟩ = some (.int .i64 at_) := HX3.out.cell 7
              have c8 : w3.cell? ⟨w2.heap.size, 8, none⟩ = some (.int .u64 (T : Int)) := HX3.out.cell 8
              clear hx3 hon3 hb3)
           | (refine wpList_store_blk rfl 24 (.tmp 2) (.tmp 43) rfl w.heap.size #[.int .i64 0, .int .i64 0, .int .i64 0, .int .i64 0, .int .i64 0, .int .i64 0, .int .i64 0, .int .i64 0, .int .u64 0] rfl rfl _ _ HBz3.out (by kernel_rfl) rfl (by decide +kernel) ?_
              intro w5 HBz5 hon5
              have HZ5 := Lib.hid HBz5
              have HB5 := Lib.hid (hon5.below HB3.out (Nat.le_refl _))
              clear HBz5 hon5))
        refine bodyPost_ret (results_cell_row_tmp rfl _ _ w.heap.size 24 _ _ _ rfl rfl HZ5.out Try.underlying24 rfl (by kernel_rfl)) rfl ?_
        exact decR_zero (dec_no HU.out rfl HK.out HP.out (.inl rfl)) HB5.out
      | true =>
        obtain ⟨r, hr⟩ := RightE.has (⟨ser, cnt, prd, fst, lft, tdy, lif, at_, (T : Int)⟩ : Med)
        by_cases h0 : r = 0
        · subst h0
          have HG := Lib.hid hr.ok
          cases hq : decide (encN (⟨ser, cnt, prd, fst, lft, tdy, lif, at_, (T : Int)⟩ : Med) = l) with
          | true =>
            have HQ := Lib.hid hq
            clear hq
            go_wp2_with
              (refine wpList_store_blk rfl 24 (.tmp 7) (.tmp 27) rfl w2.heap.size #[.int .i64 ser, .int .i64 cnt, .int .i64 prd, .int .i64 fst, .int .i64 lft, .int .i64 tdy, .int .i64 lif, .int .i64 at_, .int .u64 (T : Int)] rfl rfl _ _ (Blk.new w2 24 #[.int .i64 0, .int .i64 0, .int .i64 0, .int .i64 0, .int .i64 0, .int .i64 0, .int .i64 0, .int .i64 0, .int .u64 0]) (by kernel_rfl) rfl (by simp [Value.oneCell']) ?_
               intro w3 hx3 hon3
               have hb3 := hon3.below (below_new w2 (.cells #[.int .i64 0, .int .i64 0, .int .i64 0, .int .i64 0, .int .i64 0, .int .i64 0, .int .i64 0, .int .i64 0, .int .u64 0] 24)) (Nat.le_refl _)
               have HX3 := Lib.hid hx3
               have HB3 := Lib.hid (HB2.out.trans (hb3.mono HB2.out.size))
               have HBz3 := Lib.hid (HBz2.out.below hb3 hl2)
               have HR3 := Lib.hid (HR2.out.now hb3)
               have hl3 : w2.heap.size < w3.heap.size := hx3.lt
               have c0 : w3.cell? ⟨w2.heap.size, 0, none⟩ = some (.int .i64 ser) := HX3.out.cell 0
               have c1 : w3.cell? ⟨w2.heap.size, 1, none⟩ = some (.int .i64 cnt) := HX3.out.cell 1
               have c2 : w3.cell? ⟨w2.heap.size, 2, none⟩ = some (.int .i64 prd) := HX3.out.cell 2
               have c3 : w3.cell? ⟨w2.heap.size, 3, none⟩ = some (.int .i64 fst) := HX3.out.cell 3
               have c4 : w3.cell? ⟨w2.heap.size, 4, none⟩ = some (.int .i64 lft) := HX3.out.cell 4
               have c5 : w3.cell? ⟨w2.heap.size, 5, none⟩ = some (.int .i64 tdy) := HX3.out.cell 5
               have c6 : w3.cell? ⟨w2.heap.size, 6, none⟩ = some (.int .i64 lif) := HX3.out.cell 6
               have c7 : w3.cell? ⟨w2.heap.size, 7, none⟩ = some (.int .i64 at_) := HX3.out.cell 7
               have c8 : w3.cell? ⟨w2.heap.size, 8, none⟩ = some (.int .u64 (T : Int)) := HX3.out.cell 8
               clear hx3 hon3 hb3)
            refine (mright_any (⟨ser, cnt, prd, fst, lft, tdy, lif, at_, (T : Int)⟩ : Med) _).mono ?_
            rintro e w4 ⟨r', rfl, hr', hb4⟩
            obtain rfl := hr'.unique hr
            have HX4 := Lib.hid (HX3.out.below hb4 hl3)
            have HB4 := Lib.hid (HB3.out.trans (hb4.mono HB3.out.size))
            have HBz4 := Lib.hid (HBz3.out.below hb4 (Nat.lt_trans hl2 hl3))
            have HR4 := Lib.hid (HR3.out.now hb4)
            have hl4 : w2.heap.size < w4.heap.size := Nat.lt_of_lt_of_le hl3 hb4.size
            clear hb4 hr' c0 c1 c2 c3 c4 c5 c6 c7 c8
            have c0 : w4.cell? ⟨w2.heap.size, 0, none⟩ = some (.int .i64 ser) := HX4.out.cell 0
            have c1 : w4.cell? ⟨w2.heap.size, 1, none⟩ = some (.int .i64 cnt) := HX4.out.cell 1
            have c2 : w4.cell? ⟨w2.heap.size, 2, none⟩ = some (.int .i64 prd) := HX4.out.cell 2
            have c3 : w4.cell? ⟨w2.heap.size, 3, none⟩ = some (.int .i64 fst) := HX4.out.cell 3
            have c4 : w4.cell? ⟨w2.heap.size, 4, none⟩ = some (.int .i64 lft) := HX4.out.cell 4
            have c5 : w4.cell? ⟨w2.heap.size, 5, none⟩ = some (.int .i64 tdy) := HX4.out.cell 5
            have c6 : w4.cell? ⟨w2.heap.size, 6, none⟩ = some (.int .i64 lif) := HX4.out.cell 6
            have c7 : w4.cell? ⟨w2.heap.size, 7, none⟩ = some (.int .i64 at_) := HX4.out.cell 7
            have c8 : w4.cell? ⟨w2.heap.size, 8, none⟩ = some (.int .u64 (T : Int)) := HX4.out.cell 8
            go_wp2_with fail
            refine (encode_any (⟨ser, cnt, prd, fst, lft, tdy, lif, at_, (T : Int)⟩ : Med) _ T rfl HT.out HG.out.1).mono ?_
            rintro e w6 ⟨v6, rfl, hown6, hb6'⟩
            obtain ⟨A6, n6, q6, rfl, HN6, hc61, hc62, hr6⟩ := hown6.nam
            have HV6 := Lib.hid hr6
            have HX6 := Lib.hid (HX4.out.below hb6' hl4)
            have HB6 := Lib.hid (HB4.out.trans (hb6'.mono HB4.out.size))
            have HBz6 := Lib.hid (HBz4.out.below hb6' (Nat.lt_trans hl2 hl4))
            have HR6 := Lib.hid (HR4.out.now hb6')
            clear hb6' hown6 hr6 hc61 hc62 c0 c1 c2 c3 c4 c5 c6 c7 c8
            go_wp2_with fail
            with_reducible refine (equal_any true _ _ _ _ _ _ _ _ _ _ _ HV6.out HR6.out HQ.out).mono ?_
            rintro e w' ⟨rfl, rfl⟩
            go_wp2_with
              (first
               | (refine wpList_load_blk rfl 24 (.tmp 7) rfl w2.heap.size rfl _ _ HX6.out _ Try.underlying24 rfl (by kernel_rfl) ?_)
               | (refine wpList_store_blk rfl 24 (.tmp 2) (.tmp 44) rfl w.heap.size #[.int .i64 ser, .int .i64 cnt, .int .i64 prd, .int .i64 fst, .int .i64 lft, .int .i64 tdy, .int .i64 lif, .int .i64 at_, .int .u64 (T : Int)] rfl rfl _ _ HBz6.out (by kernel_rfl) rfl (by simp [Value.oneCell']) ?_
                  intro w7 HBz7 hon7
                  have HZ7 := Lib.hid HBz7
                  have HB7 := Lib.hid (hon7.below HB6.out (Nat.le_refl _))
                  clear HBz7 hon7))
            refine bodyPost_ret (results_cell_row_tmp rfl _ _ w.heap.size 24 _ _ _ rfl rfl HZ7.out Try.underlying24 rfl (by kernel_rfl)) rfl ?_
            exact ⟨(⟨ser, cnt, prd, fst, lft, tdy, lif, at_, (T : Int)⟩ : Med), 0, rfl, dec_yes HU.out rfl HK.out ⟨HG.out.1, HG.out.2, T, HT.out, rfl⟩ (of_decide_eq_true HQ.out), HB7.out⟩
          | false =>
            have HQ := Lib.hid hq
            clear hq
            go_wp2_with
              (refine wpList_store_blk rfl 24 (.tmp 7) (.tmp 27) rfl w2.heap.size #[.int .i64 ser, .int .i64 cnt, .int .i64 prd, .int .i64 fst, .int .i64 lft, .int .i64 tdy, .int .i64 lif, .int .i64 at_, .int .u64 (T : Int)] rfl rfl _ _ (Blk.new w2 24 #[.int .i64 0, .int .i64 0, .int .i64 0, .int .i64 0, .int .i64 0, .int .i64 0, .int .i64 0, .int .i64 0, .int .u64 0]) (by kernel_rfl) rfl (by simp [Value.oneCell']) ?_
               intro w3 hx3 hon3
               have hb3 := hon3.below (below_new w2 (.cells #[.int .i64 0, .int .i64 0, .int .i64 0, .int .i64 0, .int .i64 0, .int .i64 0, .int .i64 0, .int .i64 0, .int .u64 0] 24)) (Nat.le_refl _)
               have HX3 := Lib.hid hx3
               have HB3 := Lib.hid (HB2.out.trans (hb3.mono HB2.out.size))
               have HBz3 := Lib.hid (HBz2.out.below hb3 hl2)
               have HR3 := Lib.hid (HR2.out.now hb3)
               have hl3 : w2.heap.size < w3.heap.size := hx3.lt
               have c0 : w3.cell? ⟨w2.heap.size, 0, none⟩ = some (.int .i64 ser) := HX3.out.cell 0
               have c1 : w3.cell? ⟨w2.heap.size, 1, none⟩ = some (.int .i64 cnt) := HX3.out.cell 1
               have c2 : w3.cell? ⟨w2.heap.size, 2, none⟩ = some (.int .i64 prd) := HX3.out.cell 2
               have c3 : w3.cell? ⟨w2.heap.size, 3, none⟩ = some (.int .i64 fst) := HX3.out.cell 3
               have c4 : w3.cell? ⟨w2.heap.size, 4, none⟩ = some (.int .i64 lft) := HX3.out.cell 4
               have c5 : w3.cell? ⟨w2.heap.size, 5, none⟩ = some (.int .i64 tdy) := HX3.out.cell 5
               have c6 : w3.cell? ⟨w2.heap.size, 6, none⟩ = some (.int .i64 lif) := HX3.out.cell 6
               have c7 : w3.cell? ⟨w2.heap.size, 7, none⟩ = some (.int .i64 at_) := HX3.out.cell 7
               have c8 : w3.cell? ⟨w2.heap.size, 8, none⟩ = some (.int .u64 (T : Int)) := HX3.out.cell 8
               clear hx3 hon3 hb3)
            refine (mright_any (⟨ser, cnt, prd, fst, lft, tdy, lif, at_, (T : Int)⟩ : Med) _).mono ?_
            rintro e w4 ⟨r', rfl, hr', hb4⟩
            obtain rfl := hr'.unique hr
            have HX4 := Lib.hid (HX3.out.below hb4 hl3)
            have HB4 := Lib.hid (HB3.out.trans (hb4.mono HB3.out.size))
            have HBz4 := Lib.hid (HBz3.out.below hb4 (Nat.lt_trans hl2 hl3))
            have HR4 := Lib.hid (HR3.out.now hb4)
            have hl4 : w2.heap.size < w4.heap.size := Nat.lt_of_lt_of_le hl3 hb4.size
            clear hb4 hr' c0 c1 c2 c3 c4 c5 c6 c7 c8
            have c0 : w4.cell? ⟨w2.heap.size, 0, none⟩ = some (.int .i64 ser) := HX4.out.cell 0
            have c1 : w4.cell? ⟨w2.heap.size, 1, none⟩ = some (.int .i64 cnt) := HX4.out.cell 1
            have c2 : w4.cell? ⟨w2.heap.size, 2, none⟩ = some (.int .i64 prd) := HX4.out.cell 2
            have c3 : w4.cell? ⟨w2.heap.size, 3, none⟩ = some (.int .i64 fst) := HX4.out.cell 3
            have c4 : w4.cell? ⟨w2.heap.size, 4, none⟩ = some (.int .i64 lft) := HX4.out.cell 4
            have c5 : w4.cell? ⟨w2.heap.size, 5, none⟩ = some (.int .i64 tdy) := HX4.out.cell 5
            have c6 : w4.cell? ⟨w2.heap.size, 6, none⟩ = some (.int .i64 lif) := HX4.out.cell 6
            have c7 : w4.cell? ⟨w2.heap.size, 7, none⟩ = some (.int .i64 at_) := HX4.out.cell 7
            have c8 : w4.cell? ⟨w2.heap.size, 8, none⟩ = some (.int .u64 (T : Int)) := HX4.out.cell 8
            go_wp2_with fail
            refine (encode_any (⟨ser, cnt, prd, fst, lft, tdy, lif, at_, (T : Int)⟩ : Med) _ T rfl HT.out HG.out.1).mono ?_
            rintro e w6 ⟨v6, rfl, hown6, hb6'⟩
            obtain ⟨A6, n6, q6, rfl, HN6, hc61, hc62, hr6⟩ := hown6.nam
            have HV6 := Lib.hid hr6
            have HX6 := Lib.hid (HX4.out.below hb6' hl4)
            have HB6 := Lib.hid (HB4.out.trans (hb6'.mono HB4.out.size))
            have HBz6 := Lib.hid (HBz4.out.below hb6' (Nat.lt_trans hl2 hl4))
            have HR6 := Lib.hid (HR4.out.now hb6')
            clear hb6' hown6 hr6 hc61 hc62 c0 c1 c2 c3 c4 c5 c6 c7 c8
            go_wp2_with fail
            with_reducible refine (equal_any false _ _ _ _ _ _ _ _ _ _ _ HV6.out HR6.out HQ.out).mono ?_
            rintro e w' ⟨rfl, rfl⟩
            go_wp2_with
              (refine wpList_store_blk rfl 24 (.tmp 2) (.tmp 43) rfl w.heap.size #[.int .i64 0, .int .i64 0, .int .i64 0, .int .i64 0, .int .i64 0, .int .i64 0, .int .i64 0, .int .i64 0, .int .u64 0] rfl rfl _ _ HBz6.out (by kernel_rfl) rfl (by decide +kernel) ?_
               intro w5 HBz5 hon5
               have HZ5 := Lib.hid HBz5
               have HB5 := Lib.hid (hon5.below HB6.out (Nat.le_refl _))
               clear HBz5 hon5)
            refine bodyPost_ret (results_cell_row_tmp rfl _ _ w.heap.size 24 _ _ _ rfl rfl HZ5.out Try.underlying24 rfl (by kernel_rfl)) rfl ?_
            exact decR_zero (dec_no HU.out rfl HK.out HP.out (.inr (.inr (of_decide_eq_false HQ.out)))) HB5.out
        · have HNR : Hid (¬ (RangeM (⟨ser, cnt, prd, fst, lft, tdy, lif, at_, (T : Int)⟩ : Med) ∧ StateM (⟨ser, cnt, prd, fst, lft, tdy, lif, at_, (T : Int)⟩ : Med))) := fun h => h0 (hr.unique (RightE.r0 h.1 h.2))
          have d1 : (r != 0) = true := bne_iff_ne.2 h0
          have d2 : (r == 0) = false := beq_eq_false_iff_ne.2 h0
          clear h0
          go_wp2_with
            (refine wpList_store_blk rfl 24 (.tmp 7) (.tmp 27) rfl w2.heap.size #[.int .i64 ser, .int .i64 cnt, .int .i64 prd, .int .i64 fst, .int .i64 lft, .int .i64 tdy, .int .i64 lif, .int .i64 at_, .int .u64 (T : Int)] rfl rfl _ _ (Blk.new w2 24 #[.int .i64 0, .int .i64 0, .int .i64 0, .int .i64 0, .int .i64 0, .int .i64 0, .int .i64 0, .int .i64 0, .int .u64 0]) (by kernel_rfl) rfl (by simp [Value.oneCell']) ?_
             intro w3 hx3 hon3
             have hb3 := hon3.below (below_new w2 (.cells #[.int .i64 0, .int .i64 0, .int .i64 0, .int .i64 0, .int .i64 0, .int .i64 0, .int .i64 0, .int .i64 0, .int .u64 0] 24)) (Nat.le_refl _)
             have HX3 := Lib.hid hx3
             have HB3 := Lib.hid (HB2.out.trans (hb3.mono HB2.out.size))
             have HBz3 := Lib.hid (HBz2.out.below hb3 hl2)
             have HR3 := Lib.hid (HR2.out.now hb3)
             have hl3 : w2.heap.size < w3.heap.size := hx3.lt
             have c0 : w3.cell? ⟨w2.heap.size, 0, none⟩ = some (.int .i64 ser) := HX3.out.cell 0
             have c1 : w3.cell? ⟨w2.heap.size, 1, none⟩ = some (.int .i64 cnt) := HX3.out.cell 1
             have c2 : w3.cell? ⟨w2.heap.size, 2, none⟩ = some (.int .i64 prd) := HX3.out.cell 2
             have c3 : w3.cell? ⟨w2.heap.size, 3, none⟩ = some (.int .i64 fst) := HX3.out.cell 3
             have c4 : w3.cell? ⟨w2.heap.size, 4, none⟩ = some (.int .i64 lft) := HX3.out.cell 4
             have c5 : w3.cell? ⟨w2.heap.size, 5, none⟩ = some (.int .i64 tdy) := HX3.out.cell 5
             have c6 : w3.cell? ⟨w2.heap.size, 6, none⟩ = some (.int .i64 lif) := HX3.out.cell 6
             have c7 : w3.cell? ⟨w2.heap.size, 7, none⟩ = some (.int .i64 at_) := HX3.out.cell 7
             have c8 : w3.cell? ⟨w2.heap.size, 8, none⟩ = some (.int .u64 (T : Int)) := HX3.out.cell 8
             clear hx3 hon3 hb3)
          refine (mright_any (⟨ser, cnt, prd, fst, lft, tdy, lif, at_, (T : Int)⟩ : Med) _).mono ?_
          rintro e w4 ⟨r', rfl, hr', hb4⟩
          obtain rfl := hr'.unique hr
          have HX4 := Lib.hid (HX3.out.below hb4 hl3)
          have HB4 := Lib.hid (HB3.out.trans (hb4.mono HB3.out.size))
          have HBz4 := Lib.hid (HBz3.out.below hb4 (Nat.lt_trans hl2 hl3))
          have HR4 := Lib.hid (HR3.out.now hb4)
          have hl4 : w2.heap.size < w4.heap.size := Nat.lt_of_lt_of_le hl3 hb4.size
          clear hb4 hr' c0 c1 c2 c3 c4 c5 c6 c7 c8
          go_wp2_with
            (refine wpList_store_blk rfl 24 (.tmp 2) (.tmp 43) rfl w.heap.size #[.int .i64 0, .int .i64 0, .int .i64 0, .int .i64 0, .int .i64 0, .int .i64 0, .int .i64 0, .int .i64 0, .int .u64 0] rfl rfl _ _ HBz4.out (by kernel_rfl) rfl (by decide +kernel) ?_
             intro w5 HBz5 hon5
             have HZ5 := Lib.hid HBz5
             have HB5 := Lib.hid (hon5.below HB4.out (Nat.le_refl _))
             clear HBz5 hon5)
          refine bodyPost_ret (results_cell_row_tmp rfl _ _ w.heap.size 24 _ _ _ rfl rfl HZ5.out Try.underlying24 rfl (by kernel_rfl)) rfl ?_
          exact decR_zero (dec_no HU.out rfl HK.out HP.out (.inr (.inl HNR.out))) HB5.out
  · have hb : ((E : Int) != 0) = true := by rw [bne_iff_ne]; omega
    have HE := Lib.hid hE
    clear hE
    go_wp2_with
      (refine wpList_store_blk rfl 24 (.tmp 2) (.tmp 17) rfl w.heap.size #[.int .i64 0, .int .i64 0, .int .i64 0, .int .i64 0, .int .i64 0, .int .i64 0, .int .i64 0, .int .i64 0, .int .u64 0] rfl rfl _ _ HBz1.out (by kernel_rfl) rfl (by decide +kernel) ?_
       intro w5 HBz5 hon5
       have HZ5 := Lib.hid HBz5
       have HB5 := Lib.hid (hon5.below HB1.out (Nat.le_refl _))
       clear HBz5 hon5)
    refine bodyPost_ret (results_cell_row_tmp rfl _ _ w.heap.size 24 _ _ _ rfl rfl HZ5.out Try.underlying24 rfl (by kernel_rfl)) rfl ?_
    exact decR_zero (dec_err HU.out HE.out) HB5.out

set_option maxRecDepth 100000 in
set_option maxHeartbeats 4000000 in
theorem rdecode_any (A : Option Addr) (n c : Nat) (l : List UInt8) (w : World) (hr : Bytes w w.heap.size A n l) (hn : n ≤ 1000000) (hc : n ≤ c) (hc2 : c ≤ maxLen) :
    Calls Try.prog 25 #[.slice A n c] w (DecR l w) := by
  have HR := Lib.hid hr
  have HL := Lib.hid hr.blen
  have HM := Lib.hid hc2
  clear hr hc2
  obtain ⟨body, k, E, hu⟩ : ∃ body k E, unfG l = (body, k, E) := ⟨_, _, _, rfl⟩
  have HU := Lib.hid hu
  clear hu
  go_enter Try.func25, Try.ntmps25
  go_wp2_with fail
  have HBw0 := (Blk.new w 24 #[.int .i64 0, .int .i64 0, .int .i64 0, .int .i64 0, .int .i64 0, .int .i64 0, .int .i64 0, .int .i64 0, .int .u64 0])
  have HLw0 := (below_new w (.cells #[.int .i64 0, .int .i64 0, .int .i64 0, .int .i64 0, .int .i64 0, .int .i64 0, .int .i64 0, .int .i64 0, .int .u64 0] 24))
  have hsw0 : (w.alloc (.cells #[.int .i64 0, .int .i64 0, .int .i64 0, .int .i64 0, .int .i64 0, .int .i64 0, .int .i64 0, .int .i64 0, .int .u64 0] 24)).heap.size = w.heap.size + 1 := by simp
  generalize w.alloc (.cells #[.int .i64 0, .int .i64 0, .int .i64 0, .int .i64 0, .int .i64 0, .int .i64 0, .int .i64 0, .int .i64 0, .int .u64 0] 24) = w0 at HBw0 HLw0 hsw0 ⊢
  replace HBw0 := Lib.hid HBw0
  replace HLw0 := Lib.hid HLw0
  have hlw0 : w.heap.size < w0.heap.size := by omega
  replace hsw0 := Lib.hid hsw0
  have HR0 := Lib.hid (HR.out.now HLw0.out)
  with_reducible refine (runf_any _ _ _ _ body k E _ HR0.out (by omega) hc HM.out HU.out).mono ?_
  rintro e w1 ⟨v1, rfl, hown1, hb1⟩
  obtain ⟨A1, n1, c1, rfl, HN1, hc11, hc12, hr1⟩ := hown1.nam
  have HV1 := Lib.hid hr1
  have HM1 := Lib.hid hc12
  have hl1 : w.heap.size < w1.heap.size := Nat.lt_of_lt_of_le hlw0 hb1.size
  have HB1 := Lib.hid (HLw0.out.trans (hb1.mono HLw0.out.size))
  have HBz1 := Lib.hid (HBw0.out.below hb1 hlw0)
  have HR1 := Lib.hid (HR0.out.now hb1)
  clear hown1 hb1 hr1 hc12
  by_cases hE : E = 0
  · subst hE
    obtain ⟨hk, hb6⟩ : k ≤ n ∧ n1 ≤ 65536 := by
      obtain ⟨_, h2, h3, _⟩ := unfG_form HU.out
      rw [HL.out] at h2
      rw [HN1.out] at h3
      exact ⟨h2, h3⟩
    by_cases hkn : k < n
    · have d3 : decide ((k : Int) < (n : Int)) = true := by simp; omega
      go_wp2_with
        (refine wpList_store_blk rfl 24 (.tmp 2) (.tmp 22) rfl w.heap.size #[.int .i64 0, .int .i64 0, .int .i64 0, .int .i64 0, .int .i64 0, .int .i64 0, .int .i64 0, .int .i64 0, .int .u64 0] rfl rfl _ _ HBz1.out (by kernel_rfl) rfl (by decide +kernel) ?_
         intro w5 HBz5 hon5
         have HZ5 := Lib.hid HBz5
         have HB5 := Lib.hid (hon5.below HB1.out (Nat.le_refl _))
         clear HBz5 hon5)
      refine bodyPost_ret (results_cell_row_tmp rfl _ _ w.heap.size 24 _ _ _ rfl rfl HZ5.out Try.underlying24 rfl (by kernel_rfl)) rfl ?_
      exact decR_zero (dec_long HU.out rfl (by rw [HL.out]; exact hkn)) HB5.out
    · have hkn2 : k = n := by omega
      have HK : Hid (k = l.length) := by show _ = _; rw [HL.out]; exact hkn2
      clear hkn2
      go_wp2_with fail
      with_reducible refine (read_any _ _ _ body _ HV1.out (by omega) hc11 HM1.out).mono ?_
      rintro e w2 ⟨m, T, rfl, ht, hT, hp, hb2⟩
      have hl2 : w.heap.size < w2.heap.size := Nat.lt_of_lt_of_le hl1 hb2.size
      have HB2 := Lib.hid (HB1.out.trans (hb2.mono HB1.out.size))
      have HBz2 := Lib.hid (HBz1.out.below hb2 hl1)
      have HR2 := Lib.hid (HR1.out.now hb2)
      have HP := Lib.hid hp
      clear hb2 hp
      obtain ⟨ser, cnt, prd, fst, lft, tdy, lif, at_, tag⟩ := m
      simp only at ht
      subst ht
      have HT := Lib.hid hT
      clear hT
      obtain ⟨r, hr⟩ := RightE.has (⟨ser, cnt, prd, fst, lft, tdy, lif, at_, (T : Int)⟩ : Med)
      by_cases h0 : r = 0
      · subst h0
        have HG := Lib.hid hr.ok
        cases hq : decide (encN (⟨ser, cnt, prd, fst, lft, tdy, lif, at_, (T : Int)⟩ : Med) = l) with
        | true =>
          have HQ := Lib.hid hq
          clear hq
          go_wp2_with
            (refine wpList_store_blk rfl 24 (.tmp 7) (.tmp 24) rfl w2.heap.size #[.int .i64 ser, .int .i64 cnt, .int .i64 prd, .int .i64 fst, .int .i64 lft, .int .i64 tdy, .int .i64 lif, .int .i64 at_, .int .u64 (T : Int)] rfl rfl _ _ (Blk.new w2 24 #[.int .i64 0, .int .i64 0, .int .i64 0, .int .i64 0, .int .i64 0, .int .i64 0, .int .i64 0, .int .i64 0, .int .u64 0]) (by kernel_rfl) rfl (by simp [Value.oneCell']) ?_
             intro w3 hx3 hon3
             have hb3 := hon3.below (below_new w2 (.cells #[.int .i64 0, .int .i64 0, .int .i64 0, .int .i64 0, .int .i64 0, .int .i64 0, .int .i64 0, .int .i64 0, .int .u64 0] 24)) (Nat.le_refl _)
             have HX3 := Lib.hid hx3
             have HB3 := Lib.hid (HB2.out.trans (hb3.mono HB2.out.size))
             have HBz3 := Lib.hid (HBz2.out.below hb3 hl2)
             have HR3 := Lib.hid (HR2.out.now hb3)
             have hl3 : w2.heap.size < w3.heap.size := hx3.lt
             have c0 : w3.cell? ⟨w2.heap.size, 0, none⟩ = some (.int .i64 ser) := HX3.out.cell 0
             have c1 : w3.cell? ⟨w2.heap.size, 1, none⟩ = some (.int .i64 cnt) := HX3.out.cell 1
             have c2 : w3.cell? ⟨w2.heap.size, 2, none⟩ = some (.int .i64 prd) := HX3.out.cell 2
             have c3 : w3.cell? ⟨w2.heap.size, 3, none⟩ = some (.int .i64 fst) := HX3.out.cell 3
             have c4 : w3.cell? ⟨w2.heap.size, 4, none⟩ = some (.int .i64 lft) := HX3.out.cell 4
             have c5 : w3.cell? ⟨w2.heap.size, 5, none⟩ = some (.int .i64 tdy) := HX3.out.cell 5
             have c6 : w3.cell? ⟨w2.heap.size, 6, none⟩ = some (.int .i64 lif) := HX3.out.cell 6
             have c7 : w3.cell? ⟨w2.heap.size, 7, none⟩ = some (.int .i64 at_) := HX3.out.cell 7
             have c8 : w3.cell? ⟨w2.heap.size, 8, none⟩ = some (.int .u64 (T : Int)) := HX3.out.cell 8
             clear hx3 hon3 hb3)
          refine (rright_any (⟨ser, cnt, prd, fst, lft, tdy, lif, at_, (T : Int)⟩ : Med) _).mono ?_
          rintro e w4 ⟨r', rfl, hr', hb4⟩
          obtain rfl := hr'.unique hr
          have HX4 := Lib.hid (HX3.out.below hb4 hl3)
          have HB4 := Lib.hid (HB3.out.trans (hb4.mono HB3.out.size))
          have HBz4 := Lib.hid (HBz3.out.below hb4 (Nat.lt_trans hl2 hl3))
          have HR4 := Lib.hid (HR3.out.now hb4)
          have hl4 : w2.heap.size < w4.heap.size := Nat.lt_of_lt_of_le hl3 hb4.size
          clear hb4 hr' c0 c1 c2 c3 c4 c5 c6 c7 c8
          have c0 : w4.cell? ⟨w2.heap.size, 0, none⟩ = some (.int .i64 ser) := HX4.out.cell 0
          have c1 : w4.cell? ⟨w2.heap.size, 1, none⟩ = some (.int .i64 cnt) := HX4.out.cell 1
          have c2 : w4.cell? ⟨w2.heap.size, 2, none⟩ = some (.int .i64 prd) := HX4.out.cell 2
          have c3 : w4.cell? ⟨w2.heap.size, 3, none⟩ = some (.int .i64 fst) := HX4.out.cell 3
          have c4 : w4.cell? ⟨w2.heap.size, 4, none⟩ = some (.int .i64 lft) := HX4.out.cell 4
          have c5 : w4.cell? ⟨w2.heap.size, 5, none⟩ = some (.int .i64 tdy) := HX4.out.cell 5
          have c6 : w4.cell? ⟨w2.heap.size, 6, none⟩ = some (.int .i64 lif) := HX4.out.cell 6
          have c7 : w4.cell? ⟨w2.heap.size, 7, none⟩ = some (.int .i64 at_) := HX4.out.cell 7
          have c8 : w4.cell? ⟨w2.heap.size, 8, none⟩ = some (.int .u64 (T : Int)) := HX4.out.cell 8
          go_wp2_with fail
          refine (rencode_any (⟨ser, cnt, prd, fst, lft, tdy, lif, at_, (T : Int)⟩ : Med) _ T rfl HT.out HG.out.1).mono ?_
          rintro e w6 ⟨v6, rfl, hown6, hb6'⟩
          obtain ⟨A6, n6, q6, rfl, HN6, hc61, hc62, hr6⟩ := hown6.nam
          have HV6 := Lib.hid hr6
          have HX6 := Lib.hid (HX4.out.below hb6' hl4)
          have HB6 := Lib.hid (HB4.out.trans (hb6'.mono HB4.out.size))
          have HBz6 := Lib.hid (HBz4.out.below hb6' (Nat.lt_trans hl2 hl4))
          have HR6 := Lib.hid (HR4.out.now hb6')
          clear hb6' hown6 hr6 hc61 hc62 c0 c1 c2 c3 c4 c5 c6 c7 c8
          go_wp2_with fail
          with_reducible refine (sameb_any true _ _ _ _ _ _ _ _ _ _ _ HV6.out HR6.out HQ.out).mono ?_
          rintro e w' ⟨rfl, rfl⟩
          go_wp2_with
            (first
             | (refine wpList_load_blk rfl 24 (.tmp 7) rfl w2.heap.size rfl _ _ HX6.out _ Try.underlying24 rfl (by kernel_rfl) ?_)
             | (refine wpList_store_blk rfl 24 (.tmp 2) (.tmp 36) rfl w.heap.size #[.int .i64 ser, .int .i64 cnt, .int .i64 prd, .int .i64 fst, .int .i64 lft, .int .i64 tdy, .int .i64 lif, .int .i64 at_, .int .u64 (T : Int)] rfl rfl _ _ HBz6.out (by kernel_rfl) rfl (by simp [Value.oneCell']) ?_
                intro w7 HBz7 hon7
                have HZ7 := Lib.hid HBz7
                have HB7 := Lib.hid (hon7.below HB6.out (Nat.le_refl _))
                clear HBz7 hon7))
          refine bodyPost_ret (results_cell_row_tmp rfl _ _ w.heap.size 24 _ _ _ rfl rfl HZ7.out Try.underlying24 rfl (by kernel_rfl)) rfl ?_
          exact ⟨(⟨ser, cnt, prd, fst, lft, tdy, lif, at_, (T : Int)⟩ : Med), 0, rfl, dec_yes HU.out rfl HK.out ⟨HG.out.1, HG.out.2, T, HT.out, rfl⟩ (of_decide_eq_true HQ.out), HB7.out⟩
        | false =>
          have HQ := Lib.hid hq
          clear hq
          go_wp2_with
            (refine wpList_store_blk rfl 24 (.tmp 7) (.tmp 24) rfl w2.heap.size #[.int .i64 ser, .int .i64 cnt, .int .i64 prd, .int .i64 fst, .int .i64 lft, .int .i64 tdy, .int .i64 lif, .int .i64 at_, .int .u64 (T : Int)] rfl rfl _ _ (Blk.new w2 24 #[.int .i64 0, .int .i64 0, .int .i64 0, .int .i64 0, .int .i64 0, .int .i64 0, .int .i64 0, .int .i64 0, .int .u64 0]) (by kernel_rfl) rfl (by simp [Value.oneCell']) ?_
             intro w3 hx3 hon3
             have hb3 := hon3.below (below_new w2 (.cells #[.int .i64 0, .int .i64 0, .int .i64 0, .int .i64 0, .int .i64 0, .int .i64 0, .int .i64 0, .int .i64 0, .int .u64 0] 24)) (Nat.le_refl _)
             have HX3 := Lib.hid hx3
             have HB3 := Lib.hid (HB2.out.trans (hb3.mono HB2.out.size))
             have HBz3 := Lib.hid (HBz2.out.below hb3 hl2)
             have HR3 := Lib.hid (HR2.out.now hb3)
             have hl3 : w2.heap.size < w3.heap.size := hx3.lt
             have c0 : w3.cell? ⟨w2.heap.size, 0, none⟩ = some (.int .i64 ser) := HX3.out.cell 0
             have c1 : w3.cell? ⟨w2.heap.size, 1, none⟩ = some (.int .i64 cnt) := HX3.out.cell 1
             have c2 : w3.cell? ⟨w2.heap.size, 2, none⟩ = some (.int .i64 prd) := HX3.out.cell 2
             have c3 : w3.cell? ⟨w2.heap.size, 3, none⟩ = some (.int .i64 fst) := HX3.out.cell 3
             have c4 : w3.cell? ⟨w2.heap.size, 4, none⟩ = some (.int .i64 lft) := HX3.out.cell 4
             have c5 : w3.cell? ⟨w2.heap.size, 5, none⟩ = some (.int .i64 tdy) := HX3.out.cell 5
             have c6 : w3.cell? ⟨w2.heap.size, 6, none⟩ = some (.int .i64 lif) := HX3.out.cell 6
             have c7 : w3.cell? ⟨w2.heap.size, 7, none⟩ = some (.int .i64 at_) := HX3.out.cell 7
             have c8 : w3.cell? ⟨w2.heap.size, 8, none⟩ = some (.int .u64 (T : Int)) := HX3.out.cell 8
             clear hx3 hon3 hb3)
          refine (rright_any (⟨ser, cnt, prd, fst, lft, tdy, lif, at_, (T : Int)⟩ : Med) _).mono ?_
          rintro e w4 ⟨r', rfl, hr', hb4⟩
          obtain rfl := hr'.unique hr
          have HX4 := Lib.hid (HX3.out.below hb4 hl3)
          have HB4 := Lib.hid (HB3.out.trans (hb4.mono HB3.out.size))
          have HBz4 := Lib.hid (HBz3.out.below hb4 (Nat.lt_trans hl2 hl3))
          have HR4 := Lib.hid (HR3.out.now hb4)
          have hl4 : w2.heap.size < w4.heap.size := Nat.lt_of_lt_of_le hl3 hb4.size
          clear hb4 hr' c0 c1 c2 c3 c4 c5 c6 c7 c8
          have c0 : w4.cell? ⟨w2.heap.size, 0, none⟩ = some (.int .i64 ser) := HX4.out.cell 0
          have c1 : w4.cell? ⟨w2.heap.size, 1, none⟩ = some (.int .i64 cnt) := HX4.out.cell 1
          have c2 : w4.cell? ⟨w2.heap.size, 2, none⟩ = some (.int .i64 prd) := HX4.out.cell 2
          have c3 : w4.cell? ⟨w2.heap.size, 3, none⟩ = some (.int .i64 fst) := HX4.out.cell 3
          have c4 : w4.cell? ⟨w2.heap.size, 4, none⟩ = some (.int .i64 lft) := HX4.out.cell 4
          have c5 : w4.cell? ⟨w2.heap.size, 5, none⟩ = some (.int .i64 tdy) := HX4.out.cell 5
          have c6 : w4.cell? ⟨w2.heap.size, 6, none⟩ = some (.int .i64 lif) := HX4.out.cell 6
          have c7 : w4.cell? ⟨w2.heap.size, 7, none⟩ = some (.int .i64 at_) := HX4.out.cell 7
          have c8 : w4.cell? ⟨w2.heap.size, 8, none⟩ = some (.int .u64 (T : Int)) := HX4.out.cell 8
          go_wp2_with fail
          refine (rencode_any (⟨ser, cnt, prd, fst, lft, tdy, lif, at_, (T : Int)⟩ : Med) _ T rfl HT.out HG.out.1).mono ?_
          rintro e w6 ⟨v6, rfl, hown6, hb6'⟩
          obtain ⟨A6, n6, q6, rfl, HN6, hc61, hc62, hr6⟩ := hown6.nam
          have HV6 := Lib.hid hr6
          have HX6 := Lib.hid (HX4.out.below hb6' hl4)
          have HB6 := Lib.hid (HB4.out.trans (hb6'.mono HB4.out.size))
          have HBz6 := Lib.hid (HBz4.out.below hb6' (Nat.lt_trans hl2 hl4))
          have HR6 := Lib.hid (HR4.out.now hb6')
          clear hb6' hown6 hr6 hc61 hc62 c0 c1 c2 c3 c4 c5 c6 c7 c8
          go_wp2_with fail
          with_reducible refine (sameb_any false _ _ _ _ _ _ _ _ _ _ _ HV6.out HR6.out HQ.out).mono ?_
          rintro e w' ⟨rfl, rfl⟩
          go_wp2_with
            (refine wpList_store_blk rfl 24 (.tmp 2) (.tmp 35) rfl w.heap.size #[.int .i64 0, .int .i64 0, .int .i64 0, .int .i64 0, .int .i64 0, .int .i64 0, .int .i64 0, .int .i64 0, .int .u64 0] rfl rfl _ _ HBz6.out (by kernel_rfl) rfl (by decide +kernel) ?_
             intro w5 HBz5 hon5
             have HZ5 := Lib.hid HBz5
             have HB5 := Lib.hid (hon5.below HB6.out (Nat.le_refl _))
             clear HBz5 hon5)
          refine bodyPost_ret (results_cell_row_tmp rfl _ _ w.heap.size 24 _ _ _ rfl rfl HZ5.out Try.underlying24 rfl (by kernel_rfl)) rfl ?_
          exact decR_zero (dec_no HU.out rfl HK.out HP.out (.inr (.inr (of_decide_eq_false HQ.out)))) HB5.out
      · have HNR : Hid (¬ (RangeM (⟨ser, cnt, prd, fst, lft, tdy, lif, at_, (T : Int)⟩ : Med) ∧ StateM (⟨ser, cnt, prd, fst, lft, tdy, lif, at_, (T : Int)⟩ : Med))) := fun h => h0 (hr.unique (RightE.r0 h.1 h.2))
        have d1 : (r != 0) = true := bne_iff_ne.2 h0
        have d2 : (r == 0) = false := beq_eq_false_iff_ne.2 h0
        clear h0
        go_wp2_with
          (refine wpList_store_blk rfl 24 (.tmp 7) (.tmp 24) rfl w2.heap.size #[.int .i64 ser, .int .i64 cnt, .int .i64 prd, .int .i64 fst, .int .i64 lft, .int .i64 tdy, .int .i64 lif, .int .i64 at_, .int .u64 (T : Int)] rfl rfl _ _ (Blk.new w2 24 #[.int .i64 0, .int .i64 0, .int .i64 0, .int .i64 0, .int .i64 0, .int .i64 0, .int .i64 0, .int .i64 0, .int .u64 0]) (by kernel_rfl) rfl (by simp [Value.oneCell']) ?_
           intro w3 hx3 hon3
           have hb3 := hon3.below (below_new w2 (.cells #[.int .i64 0, .int .i64 0, .int .i64 0, .int .i64 0, .int .i64 0, .int .i64 0, .int .i64 0, .int .i64 0, .int .u64 0] 24)) (Nat.le_refl _)
           have HX3 := Lib.hid hx3
           have HB3 := Lib.hid (HB2.out.trans (hb3.mono HB2.out.size))
           have HBz3 := Lib.hid (HBz2.out.below hb3 hl2)
           have HR3 := Lib.hid (HR2.out.now hb3)
           have hl3 : w2.heap.size < w3.heap.size := hx3.lt
           have c0 : w3.cell? ⟨w2.heap.size, 0, none⟩ = some (.int .i64 ser) := HX3.out.cell 0
           have c1 : w3.cell? ⟨w2.heap.size, 1, none⟩ = some (.int .i64 cnt) := HX3.out.cell 1
           have c2 : w3.cell? ⟨w2.heap.size, 2, none⟩ = some (.int .i64 prd) := HX3.out.cell 2
           have c3 : w3.cell? ⟨w2.heap.size, 3, none⟩ = some (.int .i64 fst) := HX3.out.cell 3
           have c4 : w3.cell? ⟨w2.heap.size, 4, none⟩ = some (.int .i64 lft) := HX3.out.cell 4
           have c5 : w3.cell? ⟨w2.heap.size, 5, none⟩ = some (.int .i64 tdy) := HX3.out.cell 5
           have c6 : w3.cell? ⟨w2.heap.size, 6, none⟩ = some (.int .i64 lif) := HX3.out.cell 6
           have c7 : w3.cell? ⟨w2.heap.size, 7, none⟩ = some (.int .i64 at_) := HX3.out.cell 7
           have c8 : w3.cell? ⟨w2.heap.size, 8, none⟩ = some (.int .u64 (T : Int)) := HX3.out.cell 8
           clear hx3 hon3 hb3)
        refine (rright_any (⟨ser, cnt, prd, fst, lft, tdy, lif, at_, (T : Int)⟩ : Med) _).mono ?_
        rintro e w4 ⟨r', rfl, hr', hb4⟩
        obtain rfl := hr'.unique hr
        have HX4 := Lib.hid (HX3.out.below hb4 hl3)
        have HB4 := Lib.hid (HB3.out.trans (hb4.mono HB3.out.size))
        have HBz4 := Lib.hid (HBz3.out.below hb4 (Nat.lt_trans hl2 hl3))
        have HR4 := Lib.hid (HR3.out.now hb4)
        have hl4 : w2.heap.size < w4.heap.size := Nat.lt_of_lt_of_le hl3 hb4.size
        clear hb4 hr' c0 c1 c2 c3 c4 c5 c6 c7 c8
        go_wp2_with
          (refine wpList_store_blk rfl 24 (.tmp 2) (.tmp 35) rfl w.heap.size #[.int .i64 0, .int .i64 0, .int .i64 0, .int .i64 0, .int .i64 0, .int .i64 0, .int .i64 0, .int .i64 0, .int .u64 0] rfl rfl _ _ HBz4.out (by kernel_rfl) rfl (by decide +kernel) ?_
           intro w5 HBz5 hon5
           have HZ5 := Lib.hid HBz5
           have HB5 := Lib.hid (hon5.below HB4.out (Nat.le_refl _))
           clear HBz5 hon5)
        refine bodyPost_ret (results_cell_row_tmp rfl _ _ w.heap.size 24 _ _ _ rfl rfl HZ5.out Try.underlying24 rfl (by kernel_rfl)) rfl ?_
        exact decR_zero (dec_no HU.out rfl HK.out HP.out (.inr (.inl HNR.out))) HB5.out
  · have hb : ((E : Int) != 0) = true := by rw [bne_iff_ne]; omega
    have HE := Lib.hid hE
    clear hE
    go_wp2_with
      (refine wpList_store_blk rfl 24 (.tmp 2) (.tmp 16) rfl w.heap.size #[.int .i64 0, .int .i64 0, .int .i64 0, .int .i64 0, .int .i64 0, .int .i64 0, .int .i64 0, .int .i64 0, .int .u64 0] rfl rfl _ _ HBz1.out (by kernel_rfl) rfl (by decide +kernel) ?_
       intro w5 HBz5 hon5
       have HZ5 := Lib.hid HBz5
       have HB5 := Lib.hid (hon5.below HB1.out (Nat.le_refl _))
       clear HBz5 hon5)
    refine bodyPost_ret (results_cell_row_tmp rfl _ _ w.heap.size 24 _ _ _ rfl rfl HZ5.out Try.underlying24 rfl (by kernel_rfl)) rfl ?_
    exact decR_zero (dec_err HU.out HE.out) HB5.out

end Go.Proofs.Ythlhphifibldnaa
