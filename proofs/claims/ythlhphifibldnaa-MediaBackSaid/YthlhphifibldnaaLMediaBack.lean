/-
  MediaBack answers true for every input. Its conditions: none.
-/
import Derived.Test.YthlhphifibldnaaRowS
import Derived.Test.YthlhphifibldnaaMedL
import Derived.Test.YthlhphifibldnaaMedO
namespace Go.Proofs.Ythlhphifibldnaa
open Go.ChangeShapes Go.WideShapes Go.ChangeAt Go.RowKit

set_option maxRecDepth 100000 in
set_option maxHeartbeats 4000000 in
theorem mediaBack_any (w : World) (k : Int) (hk : 0 ≤ k ∧ k < 18446744073709551616) (ser cnt prd fst lft tdy lif at_ : Int) (T : Nat) (hT : T < 18446744073709551616) (ser2 cnt2 prd2 fst2 lft2 tdy2 lif2 at_2 : Int) (T2 : Nat) (hT2 : T2 < 18446744073709551616) :
    Calls Try.prog 8 #[.int .u64 k, .agg #[.int .i64 ser, .int .i64 cnt, .int .i64 prd, .int .i64 fst, .int .i64 lft, .int .i64 tdy, .int .i64 lif, .int .i64 at_, .int .u64 (T : Int)], .agg #[.int .i64 ser2, .int .i64 cnt2, .int .i64 prd2, .int .i64 fst2, .int .i64 lft2, .int .i64 tdy2, .int .i64 lif2, .int .i64 at_2, .int .u64 (T2 : Int)]] w fun e w' => e = .returned (.bool true) ∧ Below w.heap.size w w' := by
  obtain ⟨key, rfl⟩ := Int.eq_ofNat_of_zero_le hk.1
  have hkk : key < 18446744073709551616 := by omega
  obtain ⟨r, hr⟩ := RightE.has (⟨ser, cnt, prd, fst, lft, tdy, lif, at_, (T : Int)⟩ : Med)
  by_cases h0 : r = 0
  · subst h0
    have HG := Lib.hid hr.ok
    obtain ⟨T', hT'⟩ : ∃ T', tagM key (⟨ser, cnt, prd, fst, lft, tdy, lif, at_, (T : Int)⟩ : Med) = T' := ⟨_, rfl⟩
    have hTl : T' < 18446744073709551616 := by rw [← hT']; exact tagN_lt _ _
    obtain ⟨t, ht⟩ : ∃ t : Int, t = (T' : Int) := ⟨_, rfl⟩
    obtain ⟨t2, ht2⟩ : ∃ t2 : Int, t2 = (T' : Int) := ⟨_, rfl⟩
    have hgood : GoodM (⟨ser, cnt, prd, fst, lft, tdy, lif, at_, t⟩ : Med) := ⟨HG.out.1, HG.out.2, T', hTl, ht⟩
    have HSg : Hid (∀ W : World, Calls Try.prog 17 #[.int .u64 (key : Int), .agg #[.int .i64 ser, .int .i64 cnt, .int .i64 prd, .int .i64 fst, .int .i64 lft, .int .i64 tdy, .int .i64 lif, .int .i64 at_, .int .u64 (T : Int)]] W fun e w' => e = .returned (.agg #[.int .i64 ser, .int .i64 cnt, .int .i64 prd, .int .i64 fst, .int .i64 lft, .int .i64 tdy, .int .i64 lif, .int .i64 at_, .int .u64 t]) ∧ Below W.heap.size W w') := by
      intro W
      have h := sign_any key hkk (⟨ser, cnt, prd, fst, lft, tdy, lif, at_, (T : Int)⟩ : Med) W HG.out.1
      rw [hT', ← ht] at h
      exact h
    have HEn : Hid (∀ W : World, Calls Try.prog 22 #[.agg #[.int .i64 ser, .int .i64 cnt, .int .i64 prd, .int .i64 fst, .int .i64 lft, .int .i64 tdy, .int .i64 lif, .int .i64 at_, .int .u64 t]] W fun e w' => ∃ v, e = .returned v ∧ OwnB w' W.heap.size v (encN (⟨ser, cnt, prd, fst, lft, tdy, lif, at_, t⟩ : Med)) ∧ Below W.heap.size W w') := fun W => encode_any (⟨ser, cnt, prd, fst, lft, tdy, lif, at_, t⟩ : Med) W T' ht hTl HG.out.1
    have HDe : Hid (∀ (W : World) (A : Option Addr) (n c : Nat), Bytes W W.heap.size A n (encN (⟨ser, cnt, prd, fst, lft, tdy, lif, at_, t⟩ : Med)) → n ≤ 1000 → n ≤ c → c ≤ maxLen → Calls Try.prog 24 #[.slice A n c] W fun e w' => e = .returned (.tuple #[.agg #[.int .i64 ser, .int .i64 cnt, .int .i64 prd, .int .i64 fst, .int .i64 lft, .int .i64 tdy, .int .i64 lif, .int .i64 at_, .int .u64 t2], .int .i64 0]) ∧ Below W.heap.size W w') := by
      intro W A n c hr hn hc hc2
      refine (decode_any A n c _ W hr (by omega) hc hc2).mono ?_
      rintro e w' ⟨m, q, rfl, hd, hb⟩
      obtain ⟨rfl, rfl⟩ := hd.unique (dec_back hgood)
      exact ⟨by rw [ht2, ← ht], hb⟩
    have HEl : Hid ((encN (⟨ser, cnt, prd, fst, lft, tdy, lif, at_, t⟩ : Med)).length ≤ 1000) := by
      show _ ≤ _
      obtain ⟨T0, _, _, h3⟩ := encN_unf hgood
      obtain ⟨_, h4, h5, h6⟩ := unfG_form h3
      rw [List.take_of_length_le (Nat.le_refl _)] at h6
      rw [← h6, frameN, List.length_append, List.length_append]
      have h7 := putN_len (bodyN (⟨ser, cnt, prd, fst, lft, tdy, lif, at_, t⟩ : Med) ++ be8 T0).length
      have h8 := bodyN_len (⟨ser, cnt, prd, fst, lft, tdy, lif, at_, t⟩ : Med)
      rw [List.length_append, be8_len] at *
      simp only [be4, List.length_cons, List.length_nil]
      omega
    have HCk : Hid (∀ (W : World) (q : Int), RightE (⟨ser, cnt2, prd2, fst2, lft2, tdy2, lif2, at_2, t⟩ : Med) q → (∃ k, (bodyN (⟨ser, cnt, prd, fst, lft, tdy, lif, at_, t⟩ : Med)).length = (bodyN (⟨ser, cnt2, prd2, fst2, lft2, tdy2, lif2, at_2, t⟩ : Med)).length ∧ OneB (bodyN (⟨ser, cnt, prd, fst, lft, tdy, lif, at_, t⟩ : Med)) (bodyN (⟨ser, cnt2, prd2, fst2, lft2, tdy2, lif2, at_2, t⟩ : Med)) (bodyN (⟨ser, cnt, prd, fst, lft, tdy, lif, at_, t⟩ : Med)).length k) → Calls Try.prog 15 #[.int .u64 (key : Int), .agg #[.int .i64 ser, .int .i64 cnt2, .int .i64 prd2, .int .i64 fst2, .int .i64 lft2, .int .i64 tdy2, .int .i64 lif2, .int .i64 at_2, .int .u64 t]] W fun e w' => e = .returned (.bool false) ∧ Below W.heap.size W w') := by
      rintro W q hq ⟨k, hl, hone⟩
      exact check_any false key hkk (⟨ser, cnt2, prd2, fst2, lft2, tdy2, lif2, at_2, t⟩ : Med) W q hq (check_changed key (⟨ser, cnt, prd, fst, lft, tdy, lif, at_, t⟩ : Med) (⟨ser, cnt2, prd2, fst2, lft2, tdy2, lif2, at_2, t⟩ : Med) rfl (by rw [show tagM key (⟨ser, cnt, prd, fst, lft, tdy, lif, at_, t⟩ : Med) = T' from hT']; exact ht) hl hone q)
    have HBo : Hid (∀ W : World, Calls Try.prog 19 #[.agg #[.int .i64 ser, .int .i64 cnt, .int .i64 prd, .int .i64 fst, .int .i64 lft, .int .i64 tdy, .int .i64 lif, .int .i64 at_, .int .u64 t]] W fun e w' => ∃ v, e = .returned v ∧ OwnB w' W.heap.size v (bodyN (⟨ser, cnt, prd, fst, lft, tdy, lif, at_, t⟩ : Med)) ∧ Below W.heap.size W w') := fun W => body_any (⟨ser, cnt, prd, fst, lft, tdy, lif, at_, t⟩ : Med) W HG.out.1
    have HBl : Hid ((bodyN (⟨ser, cnt, prd, fst, lft, tdy, lif, at_, t⟩ : Med)).length ≤ 80) := bodyN_len _
    have d1 : (t2 == t) = true := beq_iff_eq.2 (ht2.trans ht.symm)
    have d2 : (t2 != t) = false := by rw [bne_eq_false_iff_eq]; exact ht2.trans ht.symm
    clear hT' ht ht2 hTl hgood
    generalize encN (⟨ser, cnt, prd, fst, lft, tdy, lif, at_, t⟩ : Med) = en at *
    obtain ⟨r2, hr2⟩ := RightE.has (⟨ser, cnt2, prd2, fst2, lft2, tdy2, lif2, at_2, t⟩ : Med)
    go_enter Try.func8, Try.ntmps8
    go_wp2_with fail
    have HBw0 := (Blk.new w 24 #[.int .i64 ser, .int .i64 cnt, .int .i64 prd, .int .i64 fst, .int .i64 lft, .int .i64 tdy, .int .i64 lif, .int .i64 at_, .int .u64 (T : Int)])
    have HLw0 := (below_new w (.cells #[.int .i64 ser, .int .i64 cnt, .int .i64 prd, .int .i64 fst, .int .i64 lft, .int .i64 tdy, .int .i64 lif, .int .i64 at_, .int .u64 (T : Int)] 24))
    have hsw0 : (w.alloc (.cells #[.int .i64 ser, .int .i64 cnt, .int .i64 prd, .int .i64 fst, .int .i64 lft, .int .i64 tdy, .int .i64 lif, .int .i64 at_, .int .u64 (T : Int)] 24)).heap.size = w.heap.size + 1 := by simp
    generalize w.alloc (.cells #[.int .i64 ser, .int .i64 cnt, .int .i64 prd, .int .i64 fst, .int .i64 lft, .int .i64 tdy, .int .i64 lif, .int .i64 at_, .int .u64 (T : Int)] 24) = w0 at HBw0 HLw0 hsw0 ⊢
    replace HBw0 := Lib.hid HBw0
    replace HLw0 := Lib.hid HLw0
    have hlw0 : w.heap.size < w0.heap.size := by omega
    replace hsw0 := Lib.hid hsw0
    have HBwb := (Blk.new w0 24 #[.int .i64 ser2, .int .i64 cnt2, .int .i64 prd2, .int .i64 fst2, .int .i64 lft2, .int .i64 tdy2, .int .i64 lif2, .int .i64 at_2, .int .u64 (T2 : Int)])
    have HLwb := (below_new w0 (.cells #[.int .i64 ser2, .int .i64 cnt2, .int .i64 prd2, .int .i64 fst2, .int .i64 lft2, .int .i64 tdy2, .int .i64 lif2, .int .i64 at_2, .int .u64 (T2 : Int)] 24))
    have hswb : (w0.alloc (.cells #[.int .i64 ser2, .int .i64 cnt2, .int .i64 prd2, .int .i64 fst2, .int .i64 lft2, .int .i64 tdy2, .int .i64 lif2, .int .i64 at_2, .int .u64 (T2 : Int)] 24)).heap.size = w0.heap.size + 1 := by simp
    generalize w0.alloc (.cells #[.int .i64 ser2, .int .i64 cnt2, .int .i64 prd2, .int .i64 fst2, .int .i64 lft2, .int .i64 tdy2, .int .i64 lif2, .int .i64 at_2, .int .u64 (T2 : Int)] 24) = wb at HBwb HLwb hswb ⊢
    replace HBwb := Lib.hid HBwb
    replace HLwb := Lib.hid HLwb
    have hlwb : w0.heap.size < wb.heap.size := by omega
    replace hswb := Lib.hid hswb
    have HY0 : Hid (Blk wb (w.heap.size + 1) 24 #[.int .i64 ser2, .int .i64 cnt2, .int .i64 prd2, .int .i64 fst2, .int .i64 lft2, .int .i64 tdy2, .int .i64 lif2, .int .i64 at_2, .int .u64 (T2 : Int)]) := by rw [← hsw0.out]; exact HBwb.out
    have HX0 := Lib.hid (HBw0.out.below HLwb.out hlw0)
    have HB0 := Lib.hid (HLw0.out.trans (HLwb.out.mono HLw0.out.size))
    have hlX0 : w.heap.size < wb.heap.size := by omega
    have hlY0 : w.heap.size + 1 < wb.heap.size := by have := hsw0.out; omega
    clear HBwb HBw0 HLwb HLw0 hlwb hlw0 hswb hsw0
    refine (alive_any _).mono ?_
    rintro e w1 ⟨rfl, hb1⟩
    have HB1 := Lib.hid (HB0.out.trans (hb1.mono HB0.out.size))
    have HX1 := Lib.hid (HX0.out.below hb1 hlX0)
    have hlX1 := Nat.lt_of_lt_of_le hlX0 hb1.size
    have HY1 := Lib.hid (HY0.out.below hb1 hlY0)
    have hlY1 := Nat.lt_of_lt_of_le hlY0 hb1.size
    clear hb1
    go_wp2_with
      (refine wpList_load_g 24 (.tmp 4) rfl rfl (w.heap.size) rfl _ _ HX1.out _ Try.underlying24 rfl (by kernel_rfl) ?_)
    refine (mright_any (⟨ser, cnt, prd, fst, lft, tdy, lif, at_, (T : Int)⟩ : Med) _).mono ?_
    rintro e w2 ⟨r', rfl, hr', hb2⟩
    obtain rfl := hr'.unique hr
    have HB2 := Lib.hid (HB1.out.trans (hb2.mono HB1.out.size))
    have HX2 := Lib.hid (HX1.out.below hb2 hlX1)
    have hlX2 := Nat.lt_of_lt_of_le hlX1 hb2.size
    have HY2 := Lib.hid (HY1.out.below hb2 hlY1)
    have hlY2 := Nat.lt_of_lt_of_le hlY1 hb2.size
    clear hb2 hr'
    go_wp2_with
      (refine wpList_load_g 24 (.tmp 4) rfl rfl (w.heap.size) rfl _ _ HX2.out _ Try.underlying24 rfl (by kernel_rfl) ?_)
    with_reducible refine (HSg.out _).mono ?_
    rintro e w3 ⟨rfl, hb3⟩
    have HB3 := Lib.hid (HB2.out.trans (hb3.mono HB2.out.size))
    have HY3 := Lib.hid (HY2.out.below hb3 hlY2)
    have hlY3 := Nat.lt_of_lt_of_le hlY2 hb3.size
    clear hb3
    go_wp2_with
      (first
       | (refine wpList_store_blk rfl 24 (.tmp 7) (.tmp 17) rfl w3.heap.size #[.int .i64 ser, .int .i64 cnt, .int .i64 prd, .int .i64 fst, .int .i64 lft, .int .i64 tdy, .int .i64 lif, .int .i64 at_, .int .u64 t] rfl rfl _ _ (Blk.new w3 24 #[.int .i64 0, .int .i64 0, .int .i64 0, .int .i64 0, .int .i64 0, .int .i64 0, .int .i64 0, .int .i64 0, .int .u64 0]) (by kernel_rfl) rfl (by simp [Value.oneCell']) ?_
          intro w4 hx4 hon4
          have hb4 := hon4.below (below_new w3 (.cells #[.int .i64 0, .int .i64 0, .int .i64 0, .int .i64 0, .int .i64 0, .int .i64 0, .int .i64 0, .int .i64 0, .int .u64 0] 24)) (Nat.le_refl _)
          have HB4 := Lib.hid (HB3.out.trans (hb4.mono HB3.out.size))
          have HY4 := Lib.hid (HY3.out.below hb4 hlY3)
          have hlY4 := Nat.lt_of_lt_of_le hlY3 hb4.size
          have HZ4 := Lib.hid hx4
          have hlZ4 : w3.heap.size < w4.heap.size := hx4.lt
          clear hx4 hon4 hb4)
       | (refine wpList_load_g 24 (.tmp 7) rfl rfl (w3.heap.size) rfl _ _ HZ4.out _ Try.underlying24 rfl (by kernel_rfl) ?_))
    with_reducible refine (HEn.out _).mono ?_
    rintro e w5 ⟨v5, rfl, hown5, hb5⟩
    have HB5 := Lib.hid (HB4.out.trans (hb5.mono HB4.out.size))
    have HY5 := Lib.hid (HY4.out.below hb5 hlY4)
    have hlY5 := Nat.lt_of_lt_of_le hlY4 hb5.size
    have HZ5 := Lib.hid (HZ4.out.below hb5 hlZ4)
    have hlZ5 := Nat.lt_of_lt_of_le hlZ4 hb5.size
    obtain ⟨A5, n5, c5, rfl, HN5, hc51, hc52, hr5⟩ := hown5.nam
    have HV5 := Lib.hid hr5
    have HM5 := Lib.hid hc52
    clear hown5 hb5 hr5 hc52
    go_wp2_with fail
    with_reducible refine (HDe.out _ _ _ _ HV5.out (by have := HN5.out; have := HEl.out; omega) hc51 HM5.out).mono ?_
    rintro e w6 ⟨rfl, hb6⟩
    have HB6 := Lib.hid (HB5.out.trans (hb6.mono HB5.out.size))
    have HY6 := Lib.hid (HY5.out.below hb6 hlY5)
    have hlY6 := Nat.lt_of_lt_of_le hlY5 hb6.size
    have HZ6 := Lib.hid (HZ5.out.below hb6 hlZ5)
    have hlZ6 := Nat.lt_of_lt_of_le hlZ5 hb6.size
    clear hb6
    go_wp2_with
      (first
       | (refine wpList_store_blk rfl 24 (.tmp 8) (.tmp 22) rfl w6.heap.size #[.int .i64 ser, .int .i64 cnt, .int .i64 prd, .int .i64 fst, .int .i64 lft, .int .i64 tdy, .int .i64 lif, .int .i64 at_, .int .u64 t2] rfl rfl _ _ (Blk.new w6 24 #[.int .i64 0, .int .i64 0, .int .i64 0, .int .i64 0, .int .i64 0, .int .i64 0, .int .i64 0, .int .i64 0, .int .u64 0]) (by kernel_rfl) rfl (by simp [Value.oneCell']) ?_
          intro w7 hx7 hon7
          have hb7 := hon7.below (below_new w6 (.cells #[.int .i64 0, .int .i64 0, .int .i64 0, .int .i64 0, .int .i64 0, .int .i64 0, .int .i64 0, .int .i64 0, .int .u64 0] 24)) (Nat.le_refl _)
          have HB7 := Lib.hid (HB6.out.trans (hb7.mono HB6.out.size))
          have HY7 := Lib.hid (HY6.out.below hb7 hlY6)
          have hlY7 := Nat.lt_of_lt_of_le hlY6 hb7.size
          have HZ7 := Lib.hid (HZ6.out.below hb7 hlZ6)
          have hlZ7 := Nat.lt_of_lt_of_le hlZ6 hb7.size
          have HU7 := Lib.hid hx7
          clear hx7 hon7 hb7)
       | (refine wpList_load_g 24 (.tmp 8) rfl rfl (w6.heap.size) rfl _ _ HU7.out _ Try.underlying24 rfl (by kernel_rfl) ?_)
       | (refine wpList_load_g 24 (.tmp 7) rfl rfl (w3.heap.size) rfl _ _ HZ7.out _ Try.underlying24 rfl (by kernel_rfl) ?_))
    have hne : w3.heap.size ≠ w.heap.size + 1 := by omega
    refine wp_region_held_drew (S := fun W => Blk W w3.heap.size 24 #[.int .i64 ser, .int .i64 cnt, .int .i64 prd, .int .i64 fst, .int .i64 lft, .int .i64 tdy, .int .i64 lif, .int .i64 at_, .int .u64 t] ∧ W.cell? ⟨w3.heap.size, 0, none⟩ = some (.int .i64 ser) ∧ W.cell? ⟨w3.heap.size, 8, none⟩ = some (.int .u64 t)) (by kernel_rfl) (⟨HZ7.out.drew, HZ7.out.drew.cell 0, HZ7.out.drew.cell 8⟩) (fun hHeld => ?_)
    refine held_run 0 (some 31) (.fieldAddr 24 (.tmp 7) 0) ?v9_1_0 (by rfl) (by kernel_rfl) (by kernel_rfl) (by kernel_rfl) (fun _ _ _ h => h) (fun o ho w hS => ?y9_1_0) (by assumption) ?r9_1_0
    case y9_1_0 => (try dsimp only at hS); unfold execOp; simp only [ho]; go_simp; try with_reducible rfl
    try simp only [Act.put, List.setIfInBounds_toArray, List.set_cons_zero, List.set_cons_succ]
    refine held_run 1 (some 32) (.load 3 (.tmp 31)) ?v9_1_1 (by rfl) (by kernel_rfl) (by kernel_rfl) (by kernel_rfl) (fun _ _ _ h => h) (fun o ho w hS => ?y9_1_1) (by assumption) ?r9_1_1
    case y9_1_1 => (try dsimp only at hS); unfold execOp; simp only [ho]; go_simp; try with_reducible rfl
    try simp only [Act.put, List.setIfInBounds_toArray, List.set_cons_zero, List.set_cons_succ]
    refine held_run 2 (some 33) (.fieldAddr 24 (.tmp 7) 8) ?v9_1_2 (by rfl) (by kernel_rfl) (by kernel_rfl) (by kernel_rfl) (fun _ _ _ h => h) (fun o ho w hS => ?y9_1_2) (by assumption) ?r9_1_2
    case y9_1_2 => (try dsimp only at hS); unfold execOp; simp only [ho]; go_simp; try with_reducible rfl
    try simp only [Act.put, List.setIfInBounds_toArray, List.set_cons_zero, List.set_cons_succ]
    refine held_run 3 (some 34) (.load 22 (.tmp 33)) ?v9_1_3 (by rfl) (by kernel_rfl) (by kernel_rfl) (by kernel_rfl) (fun _ _ _ h => h) (fun o ho w hS => ?y9_1_3) (by assumption) ?r9_1_3
    case y9_1_3 => (try dsimp only at hS); unfold execOp; simp only [ho]; go_simp; try with_reducible rfl
    try simp only [Act.put, List.setIfInBounds_toArray, List.set_cons_zero, List.set_cons_succ]
    refine held_run 4 (some 35) (.fieldAddr 24 (.tmp 5) 0) ?v9_1_4 (by rfl) (by kernel_rfl) (by kernel_rfl) (by kernel_rfl) (fun _ _ _ h => h) (fun o ho w hS => ?y9_1_4) (by assumption) ?r9_1_4
    case y9_1_4 => (try dsimp only at hS); unfold execOp; simp only [ho]; go_simp; try with_reducible rfl
    try simp only [Act.put, List.setIfInBounds_toArray, List.set_cons_zero, List.set_cons_succ]
    refine held_store 5 3 (.tmp 35) (.tmp 32) (by rfl) (by kernel_rfl) (w.heap.size + 1) 0 (.int .i64 ser) (by rfl) (by rfl) _ _ (HY7.out.drew) (by kernel_rfl) (by simp) rfl rfl ?_
    intro w8 hy8 hon8
    have HY8 : Hid (Blk w8 (w.heap.size + 1) 24 #[.int .i64 ser, .int .i64 cnt2, .int .i64 prd2, .int .i64 fst2, .int .i64 lft2, .int .i64 tdy2, .int .i64 lif2, .int .i64 at_2, .int .u64 (T2 : Int)]) := hide hy8
    have HB8 := Lib.hid (hon8.below (below_drewN HB7.out 1) (by omega))
    have HZ8 := Lib.hid (hon8.blk HZ7.out.drew hne)
    have hlY8 : w.heap.size + 1 < w8.heap.size := hy8.lt
    have hlZ8 : w3.heap.size < w8.heap.size := HZ8.out.lt
    have hH8 : (fun W => Blk W w3.heap.size 24 #[.int .i64 ser, .int .i64 cnt, .int .i64 prd, .int .i64 fst, .int .i64 lft, .int .i64 tdy, .int .i64 lif, .int .i64 at_, .int .u64 t] ∧ W.cell? ⟨w3.heap.size, 0, none⟩ = some (.int .i64 ser) ∧ W.cell? ⟨w3.heap.size, 8, none⟩ = some (.int .u64 t)) w8 := ⟨HZ8.out, HZ8.out.cell 0, HZ8.out.cell 8⟩
    clear hy8 hon8
    refine ⟨hH8, ?_⟩
    try simp only [Act.put, List.setIfInBounds_toArray, List.set_cons_zero, List.set_cons_succ]
    refine held_run 6 (some 36) (.fieldAddr 24 (.tmp 5) 8) ?v9_1_6 (by rfl) (by kernel_rfl) (by kernel_rfl) (by kernel_rfl) (fun _ _ _ h => h) (fun o ho w hS => ?y9_1_6) (by assumption) ?r9_1_6
    case y9_1_6 => (try dsimp only at hS); unfold execOp; simp only [ho]; go_simp; try with_reducible rfl
    try simp only [Act.put, List.setIfInBounds_toArray, List.set_cons_zero, List.set_cons_succ]
    refine held_store 7 22 (.tmp 36) (.tmp 34) (by rfl) (by kernel_rfl) (w.heap.size + 1) 8 (.int .u64 t) (by rfl) (by rfl) _ _ (HY8.out) (by kernel_rfl) (by simp) rfl rfl ?_
    intro w9 hy9 hon9
    have HY9 : Hid (Blk w9 (w.heap.size + 1) 24 #[.int .i64 ser, .int .i64 cnt2, .int .i64 prd2, .int .i64 fst2, .int .i64 lft2, .int .i64 tdy2, .int .i64 lif2, .int .i64 at_2, .int .u64 t]) := hide hy9
    have HB9 := Lib.hid (hon9.below HB8.out (by omega))
    have HZ9 := Lib.hid (hon9.blk HZ8.out hne)
    have hlY9 : w.heap.size + 1 < w9.heap.size := hy9.lt
    have hlZ9 : w3.heap.size < w9.heap.size := HZ9.out.lt
    have hH9 : (fun W => Blk W w3.heap.size 24 #[.int .i64 ser, .int .i64 cnt, .int .i64 prd, .int .i64 fst, .int .i64 lft, .int .i64 tdy, .int .i64 lif, .int .i64 at_, .int .u64 t] ∧ W.cell? ⟨w3.heap.size, 0, none⟩ = some (.int .i64 ser) ∧ W.cell? ⟨w3.heap.size, 8, none⟩ = some (.int .u64 t)) w9 := ⟨HZ9.out, HZ9.out.cell 0, HZ9.out.cell 8⟩
    clear hy9 hon9
    refine ⟨hH9, ?_⟩
    try simp only [Act.put, List.setIfInBounds_toArray, List.set_cons_zero, List.set_cons_succ]
    refine wpAnyH_done (by kernel_rfl) ?_ _
    go_wp2_with fail
    by_cases hq0 : r2 = 0
    · subst hq0
      have HR2 := Lib.hid hr2.ok
      have HBo2 : Hid (∀ W : World, Calls Try.prog 19 #[.agg #[.int .i64 ser, .int .i64 cnt2, .int .i64 prd2, .int .i64 fst2, .int .i64 lft2, .int .i64 tdy2, .int .i64 lif2, .int .i64 at_2, .int .u64 t]] W fun e w' => ∃ v, e = .returned v ∧ OwnB w' W.heap.size v (bodyN (⟨ser, cnt2, prd2, fst2, lft2, tdy2, lif2, at_2, t⟩ : Med)) ∧ Below W.heap.size W w') := fun W => body_any (⟨ser, cnt2, prd2, fst2, lft2, tdy2, lif2, at_2, t⟩ : Med) W HR2.out.1
      have HCk2 := Lib.hid (fun W h => HCk.out W 0 hr2 h)
      clear HCk
      generalize bodyN (⟨ser, cnt, prd, fst, lft, tdy, lif, at_, t⟩ : Med) = bs at *
      generalize bodyN (⟨ser, cnt2, prd2, fst2, lft2, tdy2, lif2, at_2, t⟩ : Med) = bc at *
      refine wp_region_held_drew (S := fun W => Blk W (w.heap.size + 1) 24 #[.int .i64 ser, .int .i64 cnt2, .int .i64 prd2, .int .i64 fst2, .int .i64 lft2, .int .i64 tdy2, .int .i64 lif2, .int .i64 at_2, .int .u64 t] ∧ Blk W w3.heap.size 24 #[.int .i64 ser, .int .i64 cnt, .int .i64 prd, .int .i64 fst, .int .i64 lft, .int .i64 tdy, .int .i64 lif, .int .i64 at_, .int .u64 t]) (by kernel_rfl) (⟨HY9.out.drew, HZ9.out.drew⟩) (fun hHeld => ?_)
      refine held_load 0 (some 37) 24 (.tmp 5) (by rfl) (by kernel_rfl) (by kernel_rfl) (by kernel_rfl) (w.heap.size + 1) 24 #[.int .i64 ser, .int .i64 cnt2, .int .i64 prd2, .int .i64 fst2, .int .i64 lft2, .int .i64 tdy2, .int .i64 lif2, .int .i64 at_2, .int .u64 t] (fun _ _ _ h => h) (by rfl) (fun _ h => h.1) _ Try.underlying24 rfl (by kernel_rfl) (by assumption) ?_
      try simp only [Act.put, List.setIfInBounds_toArray, List.set_cons_zero, List.set_cons_succ]
      refine held_call 1 (some 38) 11 [(.tmp 37)] #[24] #[.agg #[.int .i64 ser, .int .i64 cnt2, .int .i64 prd2, .int .i64 fst2, .int .i64 lft2, .int .i64 tdy2, .int .i64 lif2, .int .i64 at_2, .int .u64 t]] (by rfl) (by rfl) (by kernel_rfl) Try.func11 (by rfl) (by rfl) ?_
      refine (mright_any (⟨ser, cnt2, prd2, fst2, lft2, tdy2, lif2, at_2, t⟩ : Med) _).mono ?_
      rintro e w10 ⟨r', rfl, hr', hb10⟩
      obtain rfl := hr'.unique hr2
      have HB10 := Lib.hid ((below_drewN HB9.out 1).trans (hb10.mono HB9.out.size))
      have HY10 := Lib.hid (HY9.out.drew.below hb10 hlY9)
      have hlY10 := Nat.lt_of_lt_of_le hlY9 hb10.size
      have HZ10 := Lib.hid (HZ9.out.drew.below hb10 hlZ9)
      have hlZ10 := Nat.lt_of_lt_of_le hlZ9 hb10.size
      have hH10 : (fun W => Blk W (w.heap.size + 1) 24 #[.int .i64 ser, .int .i64 cnt2, .int .i64 prd2, .int .i64 fst2, .int .i64 lft2, .int .i64 tdy2, .int .i64 lif2, .int .i64 at_2, .int .u64 t] ∧ Blk W w3.heap.size 24 #[.int .i64 ser, .int .i64 cnt, .int .i64 prd, .int .i64 fst, .int .i64 lft, .int .i64 tdy, .int .i64 lif, .int .i64 at_, .int .u64 t]) w10 := ⟨HY10.out, HZ10.out⟩
      clear hb10 hr'
      refine ⟨_, rfl, hH10, ?_⟩
      try simp only [Act.put, List.setIfInBounds_toArray, List.set_cons_zero, List.set_cons_succ]
      refine held_run 2 (some 39) (.binOp .neq 26 (.tmp 38) (.const (.int .i64 0)) 26) ?v10_2_2 (by rfl) (by kernel_rfl) (by kernel_rfl) (by kernel_rfl) (fun _ _ _ h => h) (fun o ho w hS => ?y10_2_2) (by assumption) ?r10_2_2
      case y10_2_2 => (try dsimp only at hS); unfold execOp; simp only [ho]; go_simp; try with_reducible rfl
      try simp only [Act.put, List.setIfInBounds_toArray, List.set_cons_zero, List.set_cons_succ]
      refine held_run 3 (some 40) (.move (.tmp 39)) ?v10_2_3 (by rfl) (by kernel_rfl) (by kernel_rfl) (by kernel_rfl) (fun _ _ _ h => h) (fun o ho w hS => ?y10_2_3) (by assumption) ?r10_2_3
      case y10_2_3 => (try dsimp only at hS); unfold execOp; simp only [ho]; go_simp; try with_reducible rfl
      try simp only [Act.put, List.setIfInBounds_toArray, List.set_cons_zero, List.set_cons_succ]
      refine held_load 4 (some 41) 24 (.tmp 7) (by rfl) (by kernel_rfl) (by kernel_rfl) (by kernel_rfl) (w3.heap.size) 24 #[.int .i64 ser, .int .i64 cnt, .int .i64 prd, .int .i64 fst, .int .i64 lft, .int .i64 tdy, .int .i64 lif, .int .i64 at_, .int .u64 t] (fun _ _ _ h => h) (by rfl) (fun _ h => h.2) _ Try.underlying24 rfl (by kernel_rfl) (by assumption) ?_
      try simp only [Act.put, List.setIfInBounds_toArray, List.set_cons_zero, List.set_cons_succ]
      refine held_load 6 (some 43) 24 (.tmp 5) (by rfl) (by kernel_rfl) (by kernel_rfl) (by kernel_rfl) (w.heap.size + 1) 24 #[.int .i64 ser, .int .i64 cnt2, .int .i64 prd2, .int .i64 fst2, .int .i64 lft2, .int .i64 tdy2, .int .i64 lif2, .int .i64 at_2, .int .u64 t] (fun _ _ _ h => h) (by rfl) (fun _ h => h.1) _ Try.underlying24 rfl (by kernel_rfl) (by assumption) ?_
      try simp only [Act.put, List.setIfInBounds_toArray, List.set_cons_zero, List.set_cons_succ]
      refine held_call 5 (some 42) 19 [(.tmp 41)] #[24] #[.agg #[.int .i64 ser, .int .i64 cnt, .int .i64 prd, .int .i64 fst, .int .i64 lft, .int .i64 tdy, .int .i64 lif, .int .i64 at_, .int .u64 t]] (by rfl) (by rfl) (by kernel_rfl) Try.func19 (by rfl) (by rfl) ?_
      refine (HBo.out _).mono ?_
      rintro e w11 ⟨v11, rfl, hown11, hb11⟩
      obtain ⟨A11, n11, c11, rfl, HN11, hc111, hc112, hr11⟩ := hown11.nam
      have HV11 := Lib.hid hr11
      have HB11 := Lib.hid (HB10.out.trans (hb11.mono HB10.out.size))
      have HY11 := Lib.hid (HY10.out.below hb11 hlY10)
      have hlY11 := Nat.lt_of_lt_of_le hlY10 hb11.size
      have HZ11 := Lib.hid (HZ10.out.below hb11 hlZ10)
      have hlZ11 := Nat.lt_of_lt_of_le hlZ10 hb11.size
      have hH11 : (fun W => Blk W (w.heap.size + 1) 24 #[.int .i64 ser, .int .i64 cnt2, .int .i64 prd2, .int .i64 fst2, .int .i64 lft2, .int .i64 tdy2, .int .i64 lif2, .int .i64 at_2, .int .u64 t] ∧ Blk W w3.heap.size 24 #[.int .i64 ser, .int .i64 cnt, .int .i64 prd, .int .i64 fst, .int .i64 lft, .int .i64 tdy, .int .i64 lif, .int .i64 at_, .int .u64 t]) w11 := ⟨HY11.out, HZ11.out⟩
      clear hb11 hown11 hr11 hc111 hc112
      refine ⟨_, rfl, hH11, ?_⟩
      try simp only [Act.put, List.setIfInBounds_toArray, List.set_cons_zero, List.set_cons_succ]
      refine held_call 7 (some 44) 19 [(.tmp 43)] #[24] #[.agg #[.int .i64 ser, .int .i64 cnt2, .int .i64 prd2, .int .i64 fst2, .int .i64 lft2, .int .i64 tdy2, .int .i64 lif2, .int .i64 at_2, .int .u64 t]] (by rfl) (by rfl) (by kernel_rfl) Try.func19 (by rfl) (by rfl) ?_
      refine (HBo2.out _).mono ?_
      rintro e w12 ⟨v12, rfl, hown12, hb12⟩
      obtain ⟨A12, n12, c12, rfl, HN12, hc121, hc122, hr12⟩ := hown12.nam
      have HV12 := Lib.hid hr12
      have HV11_12 := Lib.hid (HV11.out.now hb12)
      have HB12 := Lib.hid (HB11.out.trans (hb12.mono HB11.out.size))
      have HY12 := Lib.hid (HY11.out.below hb12 hlY11)
      have hlY12 := Nat.lt_of_lt_of_le hlY11 hb12.size
      have HZ12 := Lib.hid (HZ11.out.below hb12 hlZ11)
      have hlZ12 := Nat.lt_of_lt_of_le hlZ11 hb12.size
      have hH12 : (fun W => Blk W (w.heap.size + 1) 24 #[.int .i64 ser, .int .i64 cnt2, .int .i64 prd2, .int .i64 fst2, .int .i64 lft2, .int .i64 tdy2, .int .i64 lif2, .int .i64 at_2, .int .u64 t] ∧ Blk W w3.heap.size 24 #[.int .i64 ser, .int .i64 cnt, .int .i64 prd, .int .i64 fst, .int .i64 lft, .int .i64 tdy, .int .i64 lif, .int .i64 at_, .int .u64 t]) w12 := ⟨HY12.out, HZ12.out⟩
      clear hb12 hown12 hr12 hc121 hc122
      refine ⟨_, rfl, hH12, ?_⟩
      try simp only [Act.put, List.setIfInBounds_toArray, List.set_cons_zero, List.set_cons_succ]
      refine held_call 8 (some 45) 26 [(.tmp 42), (.tmp 44)] #[35, 35] #[.slice A11 n11 c11, .slice A12 n12 c12] (by rfl) (by rfl) (by kernel_rfl) Try.func26 (by rfl) (by rfl) ?_
      refine (mblock_any _ _ _ _ _ _ _ _ _ _ _ HV11_12.out HV12.out (by have := HN11.out; have := HBl.out; omega)).mono ?_
      rintro e w13 ⟨z, rfl, hz, hdr13⟩
      have HZz := Lib.hid hz
      have HB13 := Lib.hid (HB12.out.trans (hdr13.below _))
      have HY13 : Hid (Blk w13 (w.heap.size + 1) 24 #[.int .i64 ser, .int .i64 cnt2, .int .i64 prd2, .int .i64 fst2, .int .i64 lft2, .int .i64 tdy2, .int .i64 lif2, .int .i64 at_2, .int .u64 t]) := by obtain ⟨nd, rfl⟩ := hdr13; exact HY12.out
      have HZ13 : Hid (Blk w13 w3.heap.size 24 #[.int .i64 ser, .int .i64 cnt, .int .i64 prd, .int .i64 fst, .int .i64 lft, .int .i64 tdy, .int .i64 lif, .int .i64 at_, .int .u64 t]) := by obtain ⟨nd, rfl⟩ := hdr13; exact HZ12.out
      have hH13 : (fun W => Blk W (w.heap.size + 1) 24 #[.int .i64 ser, .int .i64 cnt2, .int .i64 prd2, .int .i64 fst2, .int .i64 lft2, .int .i64 tdy2, .int .i64 lif2, .int .i64 at_2, .int .u64 t] ∧ Blk W w3.heap.size 24 #[.int .i64 ser, .int .i64 cnt, .int .i64 prd, .int .i64 fst, .int .i64 lft, .int .i64 tdy, .int .i64 lif, .int .i64 at_, .int .u64 t]) w13 := ⟨HY13.out, HZ13.out⟩
      clear hz hdr13
      refine ⟨_, rfl, hH13, ?_⟩
      try simp only [Act.put, List.setIfInBounds_toArray, List.set_cons_zero, List.set_cons_succ]
      refine held_run 9 (some 46) (.binOp .lss 3 (.tmp 45) (.const (.int .i64 0)) 3) ?v10_2_9 (by rfl) (by kernel_rfl) (by kernel_rfl) (by kernel_rfl) (fun _ _ _ h => h) (fun o ho w hS => ?y10_2_9) (by assumption) ?r10_2_9
      case y10_2_9 => (try dsimp only at hS); unfold execOp; simp only [ho]; go_simp; try with_reducible rfl
      try simp only [Act.put, List.setIfInBounds_toArray, List.set_cons_zero, List.set_cons_succ]
      refine held_run 10 (some 47) (.pick (.tmp 40) (.const (Value.bool true)) (.tmp 46)) ?v10_2_10 (by rfl) (by kernel_rfl) (by kernel_rfl) (by kernel_rfl) (fun _ _ _ h => h) (fun o ho w hS => ?y10_2_10) (by assumption) ?r10_2_10
      case y10_2_10 => (try dsimp only at hS); unfold execOp; simp only [ho]; go_simp; try with_reducible rfl
      try simp only [Act.put, List.setIfInBounds_toArray, List.set_cons_zero, List.set_cons_succ]
      refine wpAnyH_done (by kernel_rfl) ?_ _
      by_cases hz0 : z < 0
      · go_wp2_with fail
        go_ret
        exact ⟨rfl, HB13.out⟩
      · have hex : ∃ k, bs.length = bc.length ∧ OneB bs bc bs.length k := by
          rcases HZz.out with h | ⟨h1, k, h2⟩
          · exact (hz0 h).elim
          · exact ⟨k, h1, h2⟩
        have HEX := Lib.hid hex
        clear hex
        go_wp2_with
          (refine wpList_load_g 24 (.tmp 5) rfl rfl (w.heap.size + 1) rfl _ _ HY13.out _ Try.underlying24 rfl (by kernel_rfl) ?_)
        with_reducible refine (HCk2.out _ HEX.out).mono ?_
        rintro e w14 ⟨rfl, hb14⟩
        have HB14 := Lib.hid (HB13.out.trans (hb14.mono HB13.out.size))
        clear hb14
        go_wp2_with fail
        go_ret
        exact ⟨rfl, HB14.out⟩
    · have d3 : (r2 != 0) = true := bne_iff_ne.2 hq0
      have d4 : (r2 == 0) = false := beq_eq_false_iff_ne.2 hq0
      clear hq0
      refine wp_region_held_drew (S := fun W => Blk W (w.heap.size + 1) 24 #[.int .i64 ser, .int .i64 cnt2, .int .i64 prd2, .int .i64 fst2, .int .i64 lft2, .int .i64 tdy2, .int .i64 lif2, .int .i64 at_2, .int .u64 t] ∧ Blk W w3.heap.size 24 #[.int .i64 ser, .int .i64 cnt, .int .i64 prd, .int .i64 fst, .int .i64 lft, .int .i64 tdy, .int .i64 lif, .int .i64 at_, .int .u64 t]) (by kernel_rfl) (⟨HY9.out.drew, HZ9.out.drew⟩) (fun hHeld => ?_)
      refine held_load 0 (some 37) 24 (.tmp 5) (by rfl) (by kernel_rfl) (by kernel_rfl) (by kernel_rfl) (w.heap.size + 1) 24 #[.int .i64 ser, .int .i64 cnt2, .int .i64 prd2, .int .i64 fst2, .int .i64 lft2, .int .i64 tdy2, .int .i64 lif2, .int .i64 at_2, .int .u64 t] (fun _ _ _ h => h) (by rfl) (fun _ h => h.1) _ Try.underlying24 rfl (by kernel_rfl) (by assumption) ?_
      try simp only [Act.put, List.setIfInBounds_toArray, List.set_cons_zero, List.set_cons_succ]
      refine held_call 1 (some 38) 11 [(.tmp 37)] #[24] #[.agg #[.int .i64 ser, .int .i64 cnt2, .int .i64 prd2, .int .i64 fst2, .int .i64 lft2, .int .i64 tdy2, .int .i64 lif2, .int .i64 at_2, .int .u64 t]] (by rfl) (by rfl) (by kernel_rfl) Try.func11 (by rfl) (by rfl) ?_
      refine (mright_any (⟨ser, cnt2, prd2, fst2, lft2, tdy2, lif2, at_2, t⟩ : Med) _).mono ?_
      rintro e w10 ⟨r', rfl, hr', hb10⟩
      obtain rfl := hr'.unique hr2
      have HB10 := Lib.hid ((below_drewN HB9.out 1).trans (hb10.mono HB9.out.size))
      have HY10 := Lib.hid (HY9.out.drew.below hb10 hlY9)
      have hlY10 := Nat.lt_of_lt_of_le hlY9 hb10.size
      have HZ10 := Lib.hid (HZ9.out.drew.below hb10 hlZ9)
      have hlZ10 := Nat.lt_of_lt_of_le hlZ9 hb10.size
      have hH10 : (fun W => Blk W (w.heap.size + 1) 24 #[.int .i64 ser, .int .i64 cnt2, .int .i64 prd2, .int .i64 fst2, .int .i64 lft2, .int .i64 tdy2, .int .i64 lif2, .int .i64 at_2, .int .u64 t] ∧ Blk W w3.heap.size 24 #[.int .i64 ser, .int .i64 cnt, .int .i64 prd, .int .i64 fst, .int .i64 lft, .int .i64 tdy, .int .i64 lif, .int .i64 at_, .int .u64 t]) w10 := ⟨HY10.out, HZ10.out⟩
      clear hb10 hr'
      refine ⟨_, rfl, hH10, ?_⟩
      try simp only [Act.put, List.setIfInBounds_toArray, List.set_cons_zero, List.set_cons_succ]
      refine held_run 2 (some 39) (.binOp .neq 26 (.tmp 38) (.const (.int .i64 0)) 26) ?v10_3_2 (by rfl) (by kernel_rfl) (by kernel_rfl) (by kernel_rfl) (fun _ _ _ h => h) (fun o ho w hS => ?y10_3_2) (by assumption) ?r10_3_2
      case y10_3_2 => (try dsimp only at hS); unfold execOp; simp only [ho]; go_simp; try with_reducible rfl
      try simp only [Act.put, List.setIfInBounds_toArray, List.set_cons_zero, List.set_cons_succ]
      refine held_run 3 (some 40) (.move (.tmp 39)) ?v10_3_3 (by rfl) (by kernel_rfl) (by kernel_rfl) (by kernel_rfl) (fun _ _ _ h => h) (fun o ho w hS => ?y10_3_3) (by assumption) ?r10_3_3
      case y10_3_3 => (try dsimp only at hS); unfold execOp; simp only [ho]; go_simp; try with_reducible rfl
      try simp only [Act.put, List.setIfInBounds_toArray, List.set_cons_zero, List.set_cons_succ]
      refine held_skip 4 (some 41) (by rfl) (by kernel_rfl) (by kernel_rfl) (by kernel_rfl) (fun _ _ _ h => h) (by assumption) ?_
      try simp only [Act.put, List.setIfInBounds_toArray, List.set_cons_zero, List.set_cons_succ]
      refine held_skip 5 (some 42) (by rfl) (by kernel_rfl) (by kernel_rfl) (by kernel_rfl) (fun _ _ _ h => h) (by assumption) ?_
      try simp only [Act.put, List.setIfInBounds_toArray, List.set_cons_zero, List.set_cons_succ]
      refine held_skip 6 (some 43) (by rfl) (by kernel_rfl) (by kernel_rfl) (by kernel_rfl) (fun _ _ _ h => h) (by assumption) ?_
      try simp only [Act.put, List.setIfInBounds_toArray, List.set_cons_zero, List.set_cons_succ]
      refine held_skip 7 (some 44) (by rfl) (by kernel_rfl) (by kernel_rfl) (by kernel_rfl) (fun _ _ _ h => h) (by assumption) ?_
      try simp only [Act.put, List.setIfInBounds_toArray, List.set_cons_zero, List.set_cons_succ]
      refine held_skip 8 (some 45) (by rfl) (by kernel_rfl) (by kernel_rfl) (by kernel_rfl) (fun _ _ _ h => h) (by assumption) ?_
      try simp only [Act.put, List.setIfInBounds_toArray, List.set_cons_zero, List.set_cons_succ]
      refine held_skip 9 (some 46) (by rfl) (by kernel_rfl) (by kernel_rfl) (by kernel_rfl) (fun _ _ _ h => h) (by assumption) ?_
      try simp only [Act.put, List.setIfInBounds_toArray, List.set_cons_zero, List.set_cons_succ]
      refine held_run 10 (some 47) (.pick (.tmp 40) (.const (Value.bool true)) (.tmp 46)) ?v10_3_10 (by rfl) (by kernel_rfl) (by kernel_rfl) (by kernel_rfl) (fun _ _ _ h => h) (fun o ho w hS => ?y10_3_10) (by assumption) ?r10_3_10
      case y10_3_10 => (try dsimp only at hS); unfold execOp; simp only [ho]; go_simp; try with_reducible rfl
      try simp only [Act.put, List.setIfInBounds_toArray, List.set_cons_zero, List.set_cons_succ]
      refine wpAnyH_done (by kernel_rfl) ?_ _
      go_wp2_with fail
      go_ret
      exact ⟨rfl, HB10.out⟩
  · have d1 : (r != 0) = true := bne_iff_ne.2 h0
    have d2 : (r == 0) = false := beq_eq_false_iff_ne.2 h0
    clear h0
    go_enter Try.func8, Try.ntmps8
    go_wp2_with fail
    have HBw0 := (Blk.new w 24 #[.int .i64 ser, .int .i64 cnt, .int .i64 prd, .int .i64 fst, .int .i64 lft, .int .i64 tdy, .int .i64 lif, .int .i64 at_, .int .u64 (T : Int)])
    have HLw0 := (below_new w (.cells #[.int .i64 ser, .int .i64 cnt, .int .i64 prd, .int .i64 fst, .int .i64 lft, .int .i64 tdy, .int .i64 lif, .int .i64 at_, .int .u64 (T : Int)] 24))
    have hsw0 : (w.alloc (.cells #[.int .i64 ser, .int .i64 cnt, .int .i64 prd, .int .i64 fst, .int .i64 lft, .int .i64 tdy, .int .i64 lif, .int .i64 at_, .int .u64 (T : Int)] 24)).heap.size = w.heap.size + 1 := by simp
    generalize w.alloc (.cells #[.int .i64 ser, .int .i64 cnt, .int .i64 prd, .int .i64 fst, .int .i64 lft, .int .i64 tdy, .int .i64 lif, .int .i64 at_, .int .u64 (T : Int)] 24) = w0 at HBw0 HLw0 hsw0 ⊢
    replace HBw0 := Lib.hid HBw0
    replace HLw0 := Lib.hid HLw0
    have hlw0 : w.heap.size < w0.heap.size := by omega
    replace hsw0 := Lib.hid hsw0
    have HBwb := (Blk.new w0 24 #[.int .i64 ser2, .int .i64 cnt2, .int .i64 prd2, .int .i64 fst2, .int .i64 lft2, .int .i64 tdy2, .int .i64 lif2, .int .i64 at_2, .int .u64 (T2 : Int)])
    have HLwb := (below_new w0 (.cells #[.int .i64 ser2, .int .i64 cnt2, .int .i64 prd2, .int .i64 fst2, .int .i64 lft2, .int .i64 tdy2, .int .i64 lif2, .int .i64 at_2, .int .u64 (T2 : Int)] 24))
    have hswb : (w0.alloc (.cells #[.int .i64 ser2, .int .i64 cnt2, .int .i64 prd2, .int .i64 fst2, .int .i64 lft2, .int .i64 tdy2, .int .i64 lif2, .int .i64 at_2, .int .u64 (T2 : Int)] 24)).heap.size = w0.heap.size + 1 := by simp
    generalize w0.alloc (.cells #[.int .i64 ser2, .int .i64 cnt2, .int .i64 prd2, .int .i64 fst2, .int .i64 lft2, .int .i64 tdy2, .int .i64 lif2, .int .i64 at_2, .int .u64 (T2 : Int)] 24) = wb at HBwb HLwb hswb ⊢
    replace HBwb := Lib.hid HBwb
    replace HLwb := Lib.hid HLwb
    have hlwb : w0.heap.size < wb.heap.size := by omega
    replace hswb := Lib.hid hswb
    have HY0 : Hid (Blk wb (w.heap.size + 1) 24 #[.int .i64 ser2, .int .i64 cnt2, .int .i64 prd2, .int .i64 fst2, .int .i64 lft2, .int .i64 tdy2, .int .i64 lif2, .int .i64 at_2, .int .u64 (T2 : Int)]) := by rw [← hsw0.out]; exact HBwb.out
    have HX0 := Lib.hid (HBw0.out.below HLwb.out hlw0)
    have HB0 := Lib.hid (HLw0.out.trans (HLwb.out.mono HLw0.out.size))
    have hlX0 : w.heap.size < wb.heap.size := by omega
    have hlY0 : w.heap.size + 1 < wb.heap.size := by have := hsw0.out; omega
    clear HBwb HBw0 HLwb HLw0 hlwb hlw0 hswb hsw0
    refine (alive_any _).mono ?_
    rintro e w1 ⟨rfl, hb1⟩
    have HB1 := Lib.hid (HB0.out.trans (hb1.mono HB0.out.size))
    have HX1 := Lib.hid (HX0.out.below hb1 hlX0)
    have hlX1 := Nat.lt_of_lt_of_le hlX0 hb1.size
    have HY1 := Lib.hid (HY0.out.below hb1 hlY0)
    have hlY1 := Nat.lt_of_lt_of_le hlY0 hb1.size
    clear hb1
    go_wp2_with
      (refine wpList_load_g 24 (.tmp 4) rfl rfl (w.heap.size) rfl _ _ HX1.out _ Try.underlying24 rfl (by kernel_rfl) ?_)
    refine (mright_any (⟨ser, cnt, prd, fst, lft, tdy, lif, at_, (T : Int)⟩ : Med) _).mono ?_
    rintro e w2 ⟨r', rfl, hr', hb2⟩
    obtain rfl := hr'.unique hr
    have HB2 := Lib.hid (HB1.out.trans (hb2.mono HB1.out.size))
    have HX2 := Lib.hid (HX1.out.below hb2 hlX1)
    have hlX2 := Nat.lt_of_lt_of_le hlX1 hb2.size
    have HY2 := Lib.hid (HY1.out.below hb2 hlY1)
    have hlY2 := Nat.lt_of_lt_of_le hlY1 hb2.size
    clear hb2 hr'
    go_wp2_with fail
    go_ret
    exact ⟨rfl, HB2.out⟩


theorem own_mediaBack : ownKnob Try.prog.godebug = none := by kernel_rfl
theorem laidOut_mediaBack : laidOutB Try.prog = true := by kernel_rfl
set_option maxRecDepth 100000 in
theorem mediaBack_lifted (os : Os) (started : os.Started) (H : Type) (enc : TypeId × Value → H) :
    ReturnsInHanded {} Try.checked os 8 .any (Rows.mediaBackSpec.pre6 enc Try.prog Try.f8 Rows.mediaBackRow.domain false) (Rows.mediaBackSpec.post enc Try.prog Try.f8 false true false false) := by
  refine returnsInHanded_of_change (C := Try.checked) own_mediaBack started (by kernel_rfl) Try.func8
    (ChangeSpec.witness6 (enc := enc) (C := Try.checked) false ⟨#[], #[.int .u64 0, .agg #[.int .i64 0, .int .i64 0, .int .i64 0, .int .i64 0, .int .i64 0, .int .i64 0, .int .i64 0, .int .i64 0, .int .u64 0], .agg #[.int .i64 0, .int .i64 0, .int .i64 0, .int .i64 0, .int .i64 0, .int .i64 0, .int .i64 0, .int .i64 0, .int .u64 0]], []⟩ 8 (by kernel_rfl) (by kernel_rfl) (by kernel_rfl) (by kernel_rfl)) ?_
  intro W base args ds gs before hval0 hW hcnd _
  have hval : ∀ (j : Nat) t v, Try.f8.params[j]? = some t → args[j]? = some v → Value.okWide Try.prog W .any base t v := hval0
  have hW' := hW
  obtain ⟨p, q, hA0, hV, rfl, hfz, hnd⟩ := hW
  have hA : DataW.TrodAll enc Try.prog W 0 (fun _ => true) true Try.f8.params.toList args.toList ds p := hA0
  rw [Try.params8] at hA hval
  obtain ⟨v0, vs0, d0, ds0, p0, q0, hargs, rfl, rfl, h0, r0⟩ := trodAll_cons hA
  obtain ⟨v1, vs1, d1, ds1, p1, q1, rfl, rfl, rfl, h1, r1⟩ := trodAll_cons r0
  obtain ⟨v2, vs2, d2, ds2, p2, q2, rfl, rfl, rfl, h2, r2⟩ := trodAll_cons r1
  obtain ⟨rfl, rfl, rfl⟩ := trodAll_nil r2
  obtain rfl : args = #[v0, v1, v2] := by cases args; simp_all
  obtain ⟨rfl, rfl⟩ := trodVars_none hV
  obtain ⟨k, rfl, k0, k1⟩ := open_u64 Try.underlying22 (hval 0 22 v0 rfl rfl) h0
  obtain ⟨ol, rfl, oll, of⟩ := open_agg Try.underlying24 (by kernel_rfl) (by kernel_rfl) (hval 1 24 v1 rfl rfl) h1
  obtain ⟨u0, u1, u2, u3, u4, u5, u6, u7, u8, rfl⟩ := list_len9 ol oll
  obtain ⟨ser, rfl, wser⟩ := field_int Try.underlying3 (of 0 _ _ rfl rfl)
  obtain ⟨cnt, rfl, wcnt⟩ := field_int Try.underlying3 (of 1 _ _ rfl rfl)
  obtain ⟨prd, rfl, wprd⟩ := field_int Try.underlying3 (of 2 _ _ rfl rfl)
  obtain ⟨fst, rfl, wfst⟩ := field_int Try.underlying3 (of 3 _ _ rfl rfl)
  obtain ⟨lft, rfl, wlft⟩ := field_int Try.underlying3 (of 4 _ _ rfl rfl)
  obtain ⟨tdy, rfl, wtdy⟩ := field_int Try.underlying3 (of 5 _ _ rfl rfl)
  obtain ⟨lif, rfl, wlif⟩ := field_int Try.underlying3 (of 6 _ _ rfl rfl)
  obtain ⟨at_, rfl, wat_⟩ := field_int Try.underlying3 (of 7 _ _ rfl rfl)
  obtain ⟨tg, rfl, wtg⟩ := field_int Try.underlying22 (of 8 _ _ rfl rfl)
  have ht := bounds_u64 wtg
  obtain ⟨T, rfl⟩ := Int.eq_ofNat_of_zero_le ht.1
  have hT : T < 18446744073709551616 := by omega
  obtain ⟨ol2, rfl, oll2, of2⟩ := open_agg Try.underlying24 (by kernel_rfl) (by kernel_rfl) (hval 2 24 v2 rfl rfl) h2
  obtain ⟨u02, u12, u22, u32, u42, u52, u62, u72, u82, rfl⟩ := list_len9 ol2 oll2
  obtain ⟨ser2, rfl, wser2⟩ := field_int Try.underlying3 (of2 0 _ _ rfl rfl)
  obtain ⟨cnt2, rfl, wcnt2⟩ := field_int Try.underlying3 (of2 1 _ _ rfl rfl)
  obtain ⟨prd2, rfl, wprd2⟩ := field_int Try.underlying3 (of2 2 _ _ rfl rfl)
  obtain ⟨fst2, rfl, wfst2⟩ := field_int Try.underlying3 (of2 3 _ _ rfl rfl)
  obtain ⟨lft2, rfl, wlft2⟩ := field_int Try.underlying3 (of2 4 _ _ rfl rfl)
  obtain ⟨tdy2, rfl, wtdy2⟩ := field_int Try.underlying3 (of2 5 _ _ rfl rfl)
  obtain ⟨lif2, rfl, wlif2⟩ := field_int Try.underlying3 (of2 6 _ _ rfl rfl)
  obtain ⟨at_2, rfl, wat_2⟩ := field_int Try.underlying3 (of2 7 _ _ rfl rfl)
  obtain ⟨tg2, rfl, wtg2⟩ := field_int Try.underlying22 (of2 8 _ _ rfl rfl)
  have ht2 := bounds_u64 wtg2
  obtain ⟨T2, rfl⟩ := Int.eq_ofNat_of_zero_le ht2.1
  have hT2 : T2 < 18446744073709551616 := by omega
  refine (mediaBack_any W k ⟨k0, k1⟩ ser cnt prd fst lft tdy lif at_ T hT ser2 cnt2 prd2 fst2 lft2 tdy2 lif2 at_2 T2 hT2).mono fun e W' ⟨he, hb⟩ => ?_
  subst he
  exact ⟨_, rfl, law_post laidOut_mediaBack (by kernel_rfl) rfl rfl Try.underlying4 hW' rfl hb⟩

theorem mediaBack_holds : Rows.MediaBackSaid :=
  OpenClaim.holds_of_wide 8 Try.f8 rfl rfl rfl rfl rfl rfl rfl ⟨rfl, rfl, rfl, rfl, rfl⟩ rfl rfl rfl rfl rfl (by kernel_rfl) Try.func8 (by kernel_rfl)
    (of_decide_eq_true (by kernel_rfl)) (by unfold Func.isWrapper; rw [if_neg (by decide +kernel)]; exact ⟨rfl, rfl⟩)
    (fun os started H enc _ => mediaBack_lifted os started H enc)
#print axioms mediaBack_holds
end Go.Proofs.Ythlhphifibldnaa
