/-
  MediaSigns answers true for every input. Its conditions: none.
-/
import Derived.Test.YthlhphifibldnaaRowS
import Derived.Test.YthlhphifibldnaaMedL
namespace Go.Proofs.Ythlhphifibldnaa
open Go.ChangeShapes Go.WideShapes Go.ChangeAt Go.RowKit

set_option maxRecDepth 100000 in
set_option maxHeartbeats 4000000 in
theorem mediaSigns_any (w : World) (k : Int) (hk : 0 ≤ k ∧ k < 18446744073709551616) (ser cnt prd fst lft tdy lif at_ : Int) (T : Nat) (hT : T < 18446744073709551616) :
    Calls Try.prog 5 #[.int .u64 k, .agg #[.int .i64 ser, .int .i64 cnt, .int .i64 prd, .int .i64 fst, .int .i64 lft, .int .i64 tdy, .int .i64 lif, .int .i64 at_, .int .u64 (T : Int)]] w fun e w' => e = .returned (.bool true) ∧ Below w.heap.size w w' := by
  obtain ⟨key, rfl⟩ := Int.eq_ofNat_of_zero_le hk.1
  have hkk : key < 18446744073709551616 := by omega
  obtain ⟨r, hr⟩ := RightE.has (⟨ser, cnt, prd, fst, lft, tdy, lif, at_, (T : Int)⟩ : Med)
  by_cases h0 : r = 0
  · subst h0
    have HG := Lib.hid hr.ok
    obtain ⟨T', hT'⟩ : ∃ T', tagM key (⟨ser, cnt, prd, fst, lft, tdy, lif, at_, (T : Int)⟩ : Med) = T' := ⟨_, rfl⟩
    have hTl : T' < 18446744073709551616 := by rw [← hT']; exact tagN_lt _ _
    obtain ⟨t, ht⟩ : ∃ t : Int, t = (T' : Int) := ⟨_, rfl⟩
    obtain ⟨t2, ht2⟩ : ∃ t2 : Int, t2 = (T' : Int) := ⟨_, rfl⟩
    have HSg : Hid (∀ W : World, Calls Try.prog 17 #[.int .u64 (key : Int), .agg #[.int .i64 ser, .int .i64 cnt, .int .i64 prd, .int .i64 fst, .int .i64 lft, .int .i64 tdy, .int .i64 lif, .int .i64 at_, .int .u64 (T : Int)]] W fun e w' => e = .returned (.agg #[.int .i64 ser, .int .i64 cnt, .int .i64 prd, .int .i64 fst, .int .i64 lft, .int .i64 tdy, .int .i64 lif, .int .i64 at_, .int .u64 t]) ∧ Below W.heap.size W w') := by
      intro W
      have h := sign_any key hkk (⟨ser, cnt, prd, fst, lft, tdy, lif, at_, (T : Int)⟩ : Med) W HG.out.1
      rw [hT', ← ht] at h
      exact h
    have HRSg : Hid (∀ W : World, Calls Try.prog 21 #[.int .u64 (key : Int), .agg #[.int .i64 ser, .int .i64 cnt, .int .i64 prd, .int .i64 fst, .int .i64 lft, .int .i64 tdy, .int .i64 lif, .int .i64 at_, .int .u64 (T : Int)]] W fun e w' => e = .returned (.agg #[.int .i64 ser, .int .i64 cnt, .int .i64 prd, .int .i64 fst, .int .i64 lft, .int .i64 tdy, .int .i64 lif, .int .i64 at_, .int .u64 t2]) ∧ Below W.heap.size W w') := by
      intro W
      have h := rsign_any key hkk (⟨ser, cnt, prd, fst, lft, tdy, lif, at_, (T : Int)⟩ : Med) W HG.out.1
      rw [hT', ← ht2] at h
      exact h
    have HCk : Hid (∀ W : World, Calls Try.prog 15 #[.int .u64 (key : Int), .agg #[.int .i64 ser, .int .i64 cnt, .int .i64 prd, .int .i64 fst, .int .i64 lft, .int .i64 tdy, .int .i64 lif, .int .i64 at_, .int .u64 t]] W fun e w' => e = .returned (.bool true) ∧ Below W.heap.size W w') := by
      intro W
      refine check_any true key hkk (⟨ser, cnt, prd, fst, lft, tdy, lif, at_, t⟩ : Med) W 0 ?_ (decide_eq_true ⟨rfl, ?_⟩)
      · exact RightE.r0 HG.out.1 HG.out.2
      · rw [show tagM key (⟨ser, cnt, prd, fst, lft, tdy, lif, at_, t⟩ : Med) = T' from hT']
        exact ht
    have d1 : (t == t2) = true := beq_iff_eq.2 (ht.trans ht2.symm)
    clear hT' ht ht2 hTl
    cases hq : checkB key (⟨ser, cnt, prd, fst, lft, tdy, lif, at_, (T : Int)⟩ : Med) 0 with
    | true =>
      have HQ := Lib.hid hq
      clear hq
      go_enter Try.func5, Try.ntmps5
      go_wp2_with fail
      have HBw0 := (Blk.new w 24 #[.int .i64 ser, .int .i64 cnt, .int .i64 prd, .int .i64 fst, .int .i64 lft, .int .i64 tdy, .int .i64 lif, .int .i64 at_, .int .u64 (T : Int)])
      have HLw0 := (below_new w (.cells #[.int .i64 ser, .int .i64 cnt, .int .i64 prd, .int .i64 fst, .int .i64 lft, .int .i64 tdy, .int .i64 lif, .int .i64 at_, .int .u64 (T : Int)] 24))
      have hsw0 : (w.alloc (.cells #[.int .i64 ser, .int .i64 cnt, .int .i64 prd, .int .i64 fst, .int .i64 lft, .int .i64 tdy, .int .i64 lif, .int .i64 at_, .int .u64 (T : Int)] 24)).heap.size = w.heap.size + 1 := by simp
      generalize w.alloc (.cells #[.int .i64 ser, .int .i64 cnt, .int .i64 prd, .int .i64 fst, .int .i64 lft, .int .i64 tdy, .int .i64 lif, .int .i64 at_, .int .u64 (T : Int)] 24) = w0 at HBw0 HLw0 hsw0 ⊢
      replace HBw0 := Lib.hid HBw0
      replace HLw0 := Lib.hid HLw0
      have hlw0 : w.heap.size < w0.heap.size := by omega
      replace hsw0 := Lib.hid hsw0
      refine (alive_any _).mono ?_
      rintro e w1 ⟨rfl, hb1⟩
      have HB1 := Lib.hid (HLw0.out.trans (hb1.mono HLw0.out.size))
      have HX1 := Lib.hid (HBw0.out.below hb1 hlw0)
      have hl1 := Nat.lt_of_lt_of_le hlw0 hb1.size
      clear hb1
      go_wp2_with fail
      refine wp_region_held_drew (S := fun W => Blk W w.heap.size 24 #[.int .i64 ser, .int .i64 cnt, .int .i64 prd, .int .i64 fst, .int .i64 lft, .int .i64 tdy, .int .i64 lif, .int .i64 at_, .int .u64 (T : Int)]) (by kernel_rfl) (HX1.out.drew) (fun hHeld => ?_)
      refine held_run 0 (some 8) (.move (.tmp 0)) ?v3_1_0 (by rfl) (by kernel_rfl) (by kernel_rfl) (by kernel_rfl) (fun _ _ _ h => h) (fun o ho w hS => ?y3_1_0) (by assumption) ?r3_1_0
      case y3_1_0 => (try dsimp only at hS); unfold execOp; simp only [ho]; go_simp; try with_reducible rfl
      try simp only [Act.put, List.setIfInBounds_toArray, List.set_cons_zero, List.set_cons_succ]
      refine held_load 1 (some 9) 24 (.tmp 3) (by rfl) (by kernel_rfl) (by kernel_rfl) (by kernel_rfl) (w.heap.size) 24 #[.int .i64 ser, .int .i64 cnt, .int .i64 prd, .int .i64 fst, .int .i64 lft, .int .i64 tdy, .int .i64 lif, .int .i64 at_, .int .u64 (T : Int)] (fun _ _ _ h => h) (by rfl) (fun _ h => h) _ Try.underlying24 rfl (by kernel_rfl) (by assumption) ?_
      try simp only [Act.put, List.setIfInBounds_toArray, List.set_cons_zero, List.set_cons_succ]
      refine held_run 3 (some 11) (.move (.tmp 0)) ?v3_1_3 (by rfl) (by kernel_rfl) (by kernel_rfl) (by kernel_rfl) (fun _ _ _ h => h) (fun o ho w hS => ?y3_1_3) (by assumption) ?r3_1_3
      case y3_1_3 => (try dsimp only at hS); unfold execOp; simp only [ho]; go_simp; try with_reducible rfl
      try simp only [Act.put, List.setIfInBounds_toArray, List.set_cons_zero, List.set_cons_succ]
      refine held_load 4 (some 12) 24 (.tmp 3) (by rfl) (by kernel_rfl) (by kernel_rfl) (by kernel_rfl) (w.heap.size) 24 #[.int .i64 ser, .int .i64 cnt, .int .i64 prd, .int .i64 fst, .int .i64 lft, .int .i64 tdy, .int .i64 lif, .int .i64 at_, .int .u64 (T : Int)] (fun _ _ _ h => h) (by rfl) (fun _ h => h) _ Try.underlying24 rfl (by kernel_rfl) (by assumption) ?_
      try simp only [Act.put, List.setIfInBounds_toArray, List.set_cons_zero, List.set_cons_succ]
      refine held_call 2 (some 10) 15 [(.tmp 8), (.tmp 9)] #[22, 24] #[.int .u64 (key : Int), .agg #[.int .i64 ser, .int .i64 cnt, .int .i64 prd, .int .i64 fst, .int .i64 lft, .int .i64 tdy, .int .i64 lif, .int .i64 at_, .int .u64 (T : Int)]] (by rfl) (by rfl) (by kernel_rfl) Try.func15 (by rfl) (by rfl) ?_
      refine (check_any true key hkk (⟨ser, cnt, prd, fst, lft, tdy, lif, at_, (T : Int)⟩ : Med) _ 0 hr HQ.out).mono ?_
      rintro e w2 ⟨rfl, hb2⟩
      have HB2 := Lib.hid ((below_drewN HB1.out 1).trans (hb2.mono HB1.out.size))
      have HX2 := Lib.hid (HX1.out.drew.below hb2 hl1)
      have hl2 := Nat.lt_of_lt_of_le hl1 hb2.size
      have hH2 : (fun W => Blk W w.heap.size 24 #[.int .i64 ser, .int .i64 cnt, .int .i64 prd, .int .i64 fst, .int .i64 lft, .int .i64 tdy, .int .i64 lif, .int .i64 at_, .int .u64 (T : Int)]) w2 := HX2.out
      clear hb2
      refine ⟨_, rfl, hH2, ?_⟩
      try simp only [Act.put, List.setIfInBounds_toArray, List.set_cons_zero, List.set_cons_succ]
      refine held_call 5 (some 13) 16 [(.tmp 11), (.tmp 12)] #[22, 24] #[.int .u64 (key : Int), .agg #[.int .i64 ser, .int .i64 cnt, .int .i64 prd, .int .i64 fst, .int .i64 lft, .int .i64 tdy, .int .i64 lif, .int .i64 at_, .int .u64 (T : Int)]] (by rfl) (by rfl) (by kernel_rfl) Try.func16 (by rfl) (by rfl) ?_
      refine (rcheck_any true key hkk (⟨ser, cnt, prd, fst, lft, tdy, lif, at_, (T : Int)⟩ : Med) _ 0 hr HQ.out).mono ?_
      rintro e w3 ⟨rfl, hb3⟩
      have HB3 := Lib.hid (HB2.out.trans (hb3.mono HB2.out.size))
      have HX3 := Lib.hid (HX2.out.below hb3 hl2)
      have hl3 := Nat.lt_of_lt_of_le hl2 hb3.size
      have hH3 : (fun W => Blk W w.heap.size 24 #[.int .i64 ser, .int .i64 cnt, .int .i64 prd, .int .i64 fst, .int .i64 lft, .int .i64 tdy, .int .i64 lif, .int .i64 at_, .int .u64 (T : Int)]) w3 := HX3.out
      clear hb3
      refine ⟨_, rfl, hH3, ?_⟩
      try simp only [Act.put, List.setIfInBounds_toArray, List.set_cons_zero, List.set_cons_succ]
      refine held_run 6 (some 14) (.binOp .neq 4 (.tmp 10) (.tmp 13) 4) ?v3_1_6 (by rfl) (by kernel_rfl) (by kernel_rfl) (by kernel_rfl) (fun _ _ _ h => h) (fun o ho w hS => ?y3_1_6) (by assumption) ?r3_1_6
      case y3_1_6 => (try dsimp only at hS); unfold execOp; simp only [ho]; go_simp; try with_reducible rfl
      try simp only [Act.put, List.setIfInBounds_toArray, List.set_cons_zero, List.set_cons_succ]
      refine wpAnyH_done (by kernel_rfl) ?_ _
      go_wp2_with
        (refine wpList_load_g 24 (.tmp 3) rfl rfl w.heap.size rfl _ _ HX3.out _ Try.underlying24 rfl (by kernel_rfl) ?_)
      refine (rright_any (⟨ser, cnt, prd, fst, lft, tdy, lif, at_, (T : Int)⟩ : Med) _).mono ?_
      rintro e w4 ⟨r', rfl, hr', hb4⟩
      obtain rfl := hr'.unique hr
      have HB4 := Lib.hid (HB3.out.trans (hb4.mono HB3.out.size))
      have HX4 := Lib.hid (HX3.out.below hb4 hl3)
      have hl4 := Nat.lt_of_lt_of_le hl3 hb4.size
      clear hb4 hr'
      go_wp2_with
        (refine wpList_load_g 24 (.tmp 3) rfl rfl w.heap.size rfl _ _ HX4.out _ Try.underlying24 rfl (by kernel_rfl) ?_)
      with_reducible refine (HSg.out _).mono ?_
      rintro e w5 ⟨rfl, hb5⟩
      have HB5 := Lib.hid (HB4.out.trans (hb5.mono HB4.out.size))
      have HX5 := Lib.hid (HX4.out.below hb5 hl4)
      have hl5 := Nat.lt_of_lt_of_le hl4 hb5.size
      clear hb5
      go_wp2_with
        (refine wpList_store_blk rfl 24 (.tmp 5) (.tmp 20) rfl w5.heap.size #[.int .i64 ser, .int .i64 cnt, .int .i64 prd, .int .i64 fst, .int .i64 lft, .int .i64 tdy, .int .i64 lif, .int .i64 at_, .int .u64 t] rfl rfl _ _ (Blk.new w5 24 #[.int .i64 0, .int .i64 0, .int .i64 0, .int .i64 0, .int .i64 0, .int .i64 0, .int .i64 0, .int .i64 0, .int .u64 0]) (by kernel_rfl) rfl (by simp [Value.oneCell']) ?_
         intro w6 hx6 hon6
         have hb6 := hon6.below (below_new w5 (.cells #[.int .i64 0, .int .i64 0, .int .i64 0, .int .i64 0, .int .i64 0, .int .i64 0, .int .i64 0, .int .i64 0, .int .u64 0] 24)) (Nat.le_refl _)
         have HB6 := Lib.hid (HB5.out.trans (hb6.mono HB5.out.size))
         have HX6 := Lib.hid (HX5.out.below hb6 hl5)
         have HY6 := Lib.hid hx6
         have hl6 : w5.heap.size < w6.heap.size := hx6.lt
         have hm6 : w.heap.size < w6.heap.size := by omega
         clear hx6 hon6 hb6)
      refine wp_region_held_drew (S := fun W => Blk W w.heap.size 24 #[.int .i64 ser, .int .i64 cnt, .int .i64 prd, .int .i64 fst, .int .i64 lft, .int .i64 tdy, .int .i64 lif, .int .i64 at_, .int .u64 (T : Int)] ∧ Blk W w5.heap.size 24 #[.int .i64 ser, .int .i64 cnt, .int .i64 prd, .int .i64 fst, .int .i64 lft, .int .i64 tdy, .int .i64 lif, .int .i64 at_, .int .u64 t]) (by kernel_rfl) (⟨HX6.out.drew, HY6.out.drew⟩) (fun hHeld => ?_)
      refine held_load 0 (some 21) 24 (.tmp 3) (by rfl) (by kernel_rfl) (by kernel_rfl) (by kernel_rfl) (w.heap.size) 24 #[.int .i64 ser, .int .i64 cnt, .int .i64 prd, .int .i64 fst, .int .i64 lft, .int .i64 tdy, .int .i64 lif, .int .i64 at_, .int .u64 (T : Int)] (fun _ _ _ h => h) (by rfl) (fun _ h => h.1) _ Try.underlying24 rfl (by kernel_rfl) (by assumption) ?_
      try simp only [Act.put, List.setIfInBounds_toArray, List.set_cons_zero, List.set_cons_succ]
      refine held_load 2 (some 23) 24 (.tmp 3) (by rfl) (by kernel_rfl) (by kernel_rfl) (by kernel_rfl) (w.heap.size) 24 #[.int .i64 ser, .int .i64 cnt, .int .i64 prd, .int .i64 fst, .int .i64 lft, .int .i64 tdy, .int .i64 lif, .int .i64 at_, .int .u64 (T : Int)] (fun _ _ _ h => h) (by rfl) (fun _ h => h.1) _ Try.underlying24 rfl (by kernel_rfl) (by assumption) ?_
      try simp only [Act.put, List.setIfInBounds_toArray, List.set_cons_zero, List.set_cons_succ]
      refine held_call 1 (some 22) 19 [(.tmp 21)] #[24] #[.agg #[.int .i64 ser, .int .i64 cnt, .int .i64 prd, .int .i64 fst, .int .i64 lft, .int .i64 tdy, .int .i64 lif, .int .i64 at_, .int .u64 (T : Int)]] (by rfl) (by rfl) (by kernel_rfl) Try.func19 (by rfl) (by rfl) ?_
      refine (body_any (⟨ser, cnt, prd, fst, lft, tdy, lif, at_, (T : Int)⟩ : Med) _ HG.out.1).mono ?_
      rintro e w7 ⟨v7, rfl, hown7, hb7⟩
      obtain ⟨A7, n7, c7, rfl, HN7, hc71, hc72, hr7⟩ := hown7.nam
      have HV7 := Lib.hid hr7
      have HB7 := Lib.hid ((below_drewN HB6.out 1).trans (hb7.mono HB6.out.size))
      have HX7 := Lib.hid (HX6.out.drew.below hb7 hm6)
      have HY7 := Lib.hid (HY6.out.drew.below hb7 hl6)
      have hl7 := Nat.lt_of_lt_of_le hl6 hb7.size
      have hm7 := Nat.lt_of_lt_of_le hm6 hb7.size
      have hH7 : (fun W => Blk W w.heap.size 24 #[.int .i64 ser, .int .i64 cnt, .int .i64 prd, .int .i64 fst, .int .i64 lft, .int .i64 tdy, .int .i64 lif, .int .i64 at_, .int .u64 (T : Int)] ∧ Blk W w5.heap.size 24 #[.int .i64 ser, .int .i64 cnt, .int .i64 prd, .int .i64 fst, .int .i64 lft, .int .i64 tdy, .int .i64 lif, .int .i64 at_, .int .u64 t]) w7 := ⟨HX7.out, HY7.out⟩
      clear hb7 hown7 hr7 hc71 hc72
      refine ⟨_, rfl, hH7, ?_⟩
      try simp only [Act.put, List.setIfInBounds_toArray, List.set_cons_zero, List.set_cons_succ]
      refine held_call 3 (some 24) 20 [(.tmp 23)] #[24] #[.agg #[.int .i64 ser, .int .i64 cnt, .int .i64 prd, .int .i64 fst, .int .i64 lft, .int .i64 tdy, .int .i64 lif, .int .i64 at_, .int .u64 (T : Int)]] (by rfl) (by rfl) (by kernel_rfl) Try.func20 (by rfl) (by rfl) ?_
      refine (rbody_any (⟨ser, cnt, prd, fst, lft, tdy, lif, at_, (T : Int)⟩ : Med) _ HG.out.1).mono ?_
      rintro e w8 ⟨v8, rfl, hown8, hb8⟩
      obtain ⟨A8, n8, c8, rfl, HN8, hc81, hc82, hr8⟩ := hown8.nam
      have HV8 := Lib.hid hr8
      have HV7_8 := Lib.hid (HV7.out.now hb8)
      have HB8 := Lib.hid (HB7.out.trans (hb8.mono HB7.out.size))
      have HX8 := Lib.hid (HX7.out.below hb8 hm7)
      have HY8 := Lib.hid (HY7.out.below hb8 hl7)
      have hl8 := Nat.lt_of_lt_of_le hl7 hb8.size
      have hm8 := Nat.lt_of_lt_of_le hm7 hb8.size
      have hH8 : (fun W => Blk W w.heap.size 24 #[.int .i64 ser, .int .i64 cnt, .int .i64 prd, .int .i64 fst, .int .i64 lft, .int .i64 tdy, .int .i64 lif, .int .i64 at_, .int .u64 (T : Int)] ∧ Blk W w5.heap.size 24 #[.int .i64 ser, .int .i64 cnt, .int .i64 prd, .int .i64 fst, .int .i64 lft, .int .i64 tdy, .int .i64 lif, .int .i64 at_, .int .u64 t]) w8 := ⟨HX8.out, HY8.out⟩
      clear hb8 hown8 hr8 hc81 hc82
      refine ⟨_, rfl, hH8, ?_⟩
      try simp only [Act.put, List.setIfInBounds_toArray, List.set_cons_zero, List.set_cons_succ]
      refine held_call 4 (some 25) 18 [(.tmp 22), (.tmp 24)] #[35, 35] #[.slice A7 n7 c7, .slice A8 n8 c8] (by rfl) (by rfl) (by kernel_rfl) Try.func18 (by rfl) (by rfl) ?_
      refine (sameb_any true _ _ _ _ _ _ _ _ _ _ _ HV7_8.out HV8.out (by simp)).mono ?_
      rintro e w' ⟨rfl, rfl⟩
      refine ⟨_, rfl, hH8, ?_⟩
      try simp only [Act.put, List.setIfInBounds_toArray, List.set_cons_zero, List.set_cons_succ]
      refine held_run 5 (some 26) (.move (.tmp 25)) ?v8_2_5 (by rfl) (by kernel_rfl) (by kernel_rfl) (by kernel_rfl) (fun _ _ _ h => h) (fun o ho w hS => ?y8_2_5) (by assumption) ?r8_2_5
      case y8_2_5 => (try dsimp only at hS); unfold execOp; simp only [ho]; go_simp; try with_reducible rfl
      try simp only [Act.put, List.setIfInBounds_toArray, List.set_cons_zero, List.set_cons_succ]
      refine held_load 6 (some 27) 24 (.tmp 5) (by rfl) (by kernel_rfl) (by kernel_rfl) (by kernel_rfl) (w5.heap.size) 24 #[.int .i64 ser, .int .i64 cnt, .int .i64 prd, .int .i64 fst, .int .i64 lft, .int .i64 tdy, .int .i64 lif, .int .i64 at_, .int .u64 t] (fun _ _ _ h => h) (by rfl) (fun _ h => h.2) _ Try.underlying24 rfl (by kernel_rfl) (by assumption) ?_
      try simp only [Act.put, List.setIfInBounds_toArray, List.set_cons_zero, List.set_cons_succ]
      refine held_run 7 (some 28) (.move (.tmp 0)) ?v8_2_7 (by rfl) (by kernel_rfl) (by kernel_rfl) (by kernel_rfl) (fun _ _ _ h => h) (fun o ho w hS => ?y8_2_7) (by assumption) ?r8_2_7
      case y8_2_7 => (try dsimp only at hS); unfold execOp; simp only [ho]; go_simp; try with_reducible rfl
      try simp only [Act.put, List.setIfInBounds_toArray, List.set_cons_zero, List.set_cons_succ]
      refine held_load 8 (some 29) 24 (.tmp 3) (by rfl) (by kernel_rfl) (by kernel_rfl) (by kernel_rfl) (w.heap.size) 24 #[.int .i64 ser, .int .i64 cnt, .int .i64 prd, .int .i64 fst, .int .i64 lft, .int .i64 tdy, .int .i64 lif, .int .i64 at_, .int .u64 (T : Int)] (fun _ _ _ h => h) (by rfl) (fun _ h => h.1) _ Try.underlying24 rfl (by kernel_rfl) (by assumption) ?_
      try simp only [Act.put, List.setIfInBounds_toArray, List.set_cons_zero, List.set_cons_succ]
      refine held_call 9 (some 30) 21 [(.tmp 28), (.tmp 29)] #[22, 24] #[.int .u64 (key : Int), .agg #[.int .i64 ser, .int .i64 cnt, .int .i64 prd, .int .i64 fst, .int .i64 lft, .int .i64 tdy, .int .i64 lif, .int .i64 at_, .int .u64 (T : Int)]] (by rfl) (by rfl) (by kernel_rfl) Try.func21 (by rfl) (by rfl) ?_
      refine (HRSg.out _).mono ?_
      rintro e w9 ⟨rfl, hb9⟩
      have HB9 := Lib.hid (HB8.out.trans (hb9.mono HB8.out.size))
      have HX9 := Lib.hid (HX8.out.below hb9 hm8)
      have HY9 := Lib.hid (HY8.out.below hb9 hl8)
      have hl9 := Nat.lt_of_lt_of_le hl8 hb9.size
      have hm9 := Nat.lt_of_lt_of_le hm8 hb9.size
      have hH9 : (fun W => Blk W w.heap.size 24 #[.int .i64 ser, .int .i64 cnt, .int .i64 prd, .int .i64 fst, .int .i64 lft, .int .i64 tdy, .int .i64 lif, .int .i64 at_, .int .u64 (T : Int)] ∧ Blk W w5.heap.size 24 #[.int .i64 ser, .int .i64 cnt, .int .i64 prd, .int .i64 fst, .int .i64 lft, .int .i64 tdy, .int .i64 lif, .int .i64 at_, .int .u64 t]) w9 := ⟨HX9.out, HY9.out⟩
      clear hb9
      refine ⟨_, rfl, hH9, ?_⟩
      try simp only [Act.put, List.setIfInBounds_toArray, List.set_cons_zero, List.set_cons_succ]
      refine held_run 10 (some 31) (.binOp .eql 24 (.tmp 27) (.tmp 30) 24) ?v8_2_10 (by rfl) (by kernel_rfl) (by kernel_rfl) (by kernel_rfl) (fun _ _ _ h => h) (fun o ho w hS => ?y8_2_10) (by assumption) ?r8_2_10
      case y8_2_10 => (try dsimp only at hS); unfold execOp; simp only [ho]; go_simp; try with_reducible rfl
      try simp only [Act.put, List.setIfInBounds_toArray, List.set_cons_zero, List.set_cons_succ]
      refine held_run 11 (some 32) (.pick (.tmp 26) (.tmp 31) (.const (Value.bool false))) ?v8_2_11 (by rfl) (by kernel_rfl) (by kernel_rfl) (by kernel_rfl) (fun _ _ _ h => h) (fun o ho w hS => ?y8_2_11) (by assumption) ?r8_2_11
      case y8_2_11 => (try dsimp only at hS); unfold execOp; simp only [ho]; go_simp; try with_reducible rfl
      try simp only [Act.put, List.setIfInBounds_toArray, List.set_cons_zero, List.set_cons_succ]
      refine held_run 12 (some 33) (.move (.tmp 32)) ?v8_2_12 (by rfl) (by kernel_rfl) (by kernel_rfl) (by kernel_rfl) (fun _ _ _ h => h) (fun o ho w hS => ?y8_2_12) (by assumption) ?r8_2_12
      case y8_2_12 => (try dsimp only at hS); unfold execOp; simp only [ho]; go_simp; try with_reducible rfl
      try simp only [Act.put, List.setIfInBounds_toArray, List.set_cons_zero, List.set_cons_succ]
      refine held_run 13 (some 34) (.move (.tmp 0)) ?v8_2_13 (by rfl) (by kernel_rfl) (by kernel_rfl) (by kernel_rfl) (fun _ _ _ h => h) (fun o ho w hS => ?y8_2_13) (by assumption) ?r8_2_13
      case y8_2_13 => (try dsimp only at hS); unfold execOp; simp only [ho]; go_simp; try with_reducible rfl
      try simp only [Act.put, List.setIfInBounds_toArray, List.set_cons_zero, List.set_cons_succ]
      refine held_load 14 (some 35) 24 (.tmp 5) (by rfl) (by kernel_rfl) (by kernel_rfl) (by kernel_rfl) (w5.heap.size) 24 #[.int .i64 ser, .int .i64 cnt, .int .i64 prd, .int .i64 fst, .int .i64 lft, .int .i64 tdy, .int .i64 lif, .int .i64 at_, .int .u64 t] (fun _ _ _ h => h) (by rfl) (fun _ h => h.2) _ Try.underlying24 rfl (by kernel_rfl) (by assumption) ?_
      try simp only [Act.put, List.setIfInBounds_toArray, List.set_cons_zero, List.set_cons_succ]
      refine held_call 15 (some 36) 15 [(.tmp 34), (.tmp 35)] #[22, 24] #[.int .u64 (key : Int), .agg #[.int .i64 ser, .int .i64 cnt, .int .i64 prd, .int .i64 fst, .int .i64 lft, .int .i64 tdy, .int .i64 lif, .int .i64 at_, .int .u64 t]] (by rfl) (by rfl) (by kernel_rfl) Try.func15 (by rfl) (by rfl) ?_
      refine (HCk.out _).mono ?_
      rintro e w10 ⟨rfl, hb10⟩
      have HB10 := Lib.hid (HB9.out.trans (hb10.mono HB9.out.size))
      have HX10 := Lib.hid (HX9.out.below hb10 hm9)
      have HY10 := Lib.hid (HY9.out.below hb10 hl9)
      have hl10 := Nat.lt_of_lt_of_le hl9 hb10.size
      have hm10 := Nat.lt_of_lt_of_le hm9 hb10.size
      have hH10 : (fun W => Blk W w.heap.size 24 #[.int .i64 ser, .int .i64 cnt, .int .i64 prd, .int .i64 fst, .int .i64 lft, .int .i64 tdy, .int .i64 lif, .int .i64 at_, .int .u64 (T : Int)] ∧ Blk W w5.heap.size 24 #[.int .i64 ser, .int .i64 cnt, .int .i64 prd, .int .i64 fst, .int .i64 lft, .int .i64 tdy, .int .i64 lif, .int .i64 at_, .int .u64 t]) w10 := ⟨HX10.out, HY10.out⟩
      clear hb10
      refine ⟨_, rfl, hH10, ?_⟩
      try simp only [Act.put, List.setIfInBounds_toArray, List.set_cons_zero, List.set_cons_succ]
      refine held_run 16 (some 37) (.pick (.tmp 33) (.tmp 36) (.const (Value.bool false))) ?v8_2_16 (by rfl) (by kernel_rfl) (by kernel_rfl) (by kernel_rfl) (fun _ _ _ h => h) (fun o ho w hS => ?y8_2_16) (by assumption) ?r8_2_16
      case y8_2_16 => (try dsimp only at hS); unfold execOp; simp only [ho]; go_simp; try with_reducible rfl
      try simp only [Act.put, List.setIfInBounds_toArray, List.set_cons_zero, List.set_cons_succ]
      refine held_run 17 (some 4) (.assign (.tmp 37)) ?v8_2_17 (by rfl) (by kernel_rfl) (by kernel_rfl) (by kernel_rfl) (fun _ _ _ h => h) (fun o ho w hS => ?y8_2_17) (by assumption) ?r8_2_17
      case y8_2_17 => (try dsimp only at hS); unfold execOp; simp only [ho]; go_simp; try with_reducible rfl
      try simp only [Act.put, List.setIfInBounds_toArray, List.set_cons_zero, List.set_cons_succ]
      refine wpAnyH_done (by kernel_rfl) ?_ _
      go_wp2_with fail
      go_ret
      exact ⟨rfl, HB10.out⟩
    | false =>
      have HQ := Lib.hid hq
      clear hq
      go_enter Try.func5, Try.ntmps5
      go_wp2_with fail
      have HBw0 := (Blk.new w 24 #[.int .i64 ser, .int .i64 cnt, .int .i64 prd, .int .i64 fst, .int .i64 lft, .int .i64 tdy, .int .i64 lif, .int .i64 at_, .int .u64 (T : Int)])
      have HLw0 := (below_new w (.cells #[.int .i64 ser, .int .i64 cnt, .int .i64 prd, .int .i64 fst, .int .i64 lft, .int .i64 tdy, .int .i64 lif, .int .i64 at_, .int .u64 (T : Int)] 24))
      have hsw0 : (w.alloc (.cells #[.int .i64 ser, .int .i64 cnt, .int .i64 prd, .int .i64 fst, .int .i64 lft, .int .i64 tdy, .int .i64 lif, .int .i64 at_, .int .u64 (T : Int)] 24)).heap.size = w.heap.size + 1 := by simp
      generalize w.alloc (.cells #[.int .i64 ser, .int .i64 cnt, .int .i64 prd, .int .i64 fst, .int .i64 lft, .int .i64 tdy, .int .i64 lif, .int .i64 at_, .int .u64 (T : Int)] 24) = w0 at HBw0 HLw0 hsw0 ⊢
      replace HBw0 := Lib.hid HBw0
      replace HLw0 := Lib.hid HLw0
      have hlw0 : w.heap.size < w0.heap.size := by omega
      replace hsw0 := Lib.hid hsw0
      refine (alive_any _).mono ?_
      rintro e w1 ⟨rfl, hb1⟩
      have HB1 := Lib.hid (HLw0.out.trans (hb1.mono HLw0.out.size))
      have HX1 := Lib.hid (HBw0.out.below hb1 hlw0)
      have hl1 := Nat.lt_of_lt_of_le hlw0 hb1.size
      clear hb1
      go_wp2_with fail
      refine wp_region_held_drew (S := fun W => Blk W w.heap.size 24 #[.int .i64 ser, .int .i64 cnt, .int .i64 prd, .int .i64 fst, .int .i64 lft, .int .i64 tdy, .int .i64 lif, .int .i64 at_, .int .u64 (T : Int)]) (by kernel_rfl) (HX1.out.drew) (fun hHeld => ?_)
      refine held_run 0 (some 8) (.move (.tmp 0)) ?v3_3_0 (by rfl) (by kernel_rfl) (by kernel_rfl) (by kernel_rfl) (fun _ _ _ h => h) (fun o ho w hS => ?y3_3_0) (by assumption) ?r3_3_0
      case y3_3_0 => (try dsimp only at hS); unfold execOp; simp only [ho]; go_simp; try with_reducible rfl
      try simp only [Act.put, List.setIfInBounds_toArray, List.set_cons_zero, List.set_cons_succ]
      refine held_load 1 (some 9) 24 (.tmp 3) (by rfl) (by kernel_rfl) (by kernel_rfl) (by kernel_rfl) (w.heap.size) 24 #[.int .i64 ser, .int .i64 cnt, .int .i64 prd, .int .i64 fst, .int .i64 lft, .int .i64 tdy, .int .i64 lif, .int .i64 at_, .int .u64 (T : Int)] (fun _ _ _ h => h) (by rfl) (fun _ h => h) _ Try.underlying24 rfl (by kernel_rfl) (by assumption) ?_
      try simp only [Act.put, List.setIfInBounds_toArray, List.set_cons_zero, List.set_cons_succ]
      refine held_run 3 (some 11) (.move (.tmp 0)) ?v3_3_3 (by rfl) (by kernel_rfl) (by kernel_rfl) (by kernel_rfl) (fun _ _ _ h => h) (fun o ho w hS => ?y3_3_3) (by assumption) ?r3_3_3
      case y3_3_3 => (try dsimp only at hS); unfold execOp; simp only [ho]; go_simp; try with_reducible rfl
      try simp only [Act.put, List.setIfInBounds_toArray, List.set_cons_zero, List.set_cons_succ]
      refine held_load 4 (some 12) 24 (.tmp 3) (by rfl) (by kernel_rfl) (by kernel_rfl) (by kernel_rfl) (w.heap.size) 24 #[.int .i64 ser, .int .i64 cnt, .int .i64 prd, .int .i64 fst, .int .i64 lft, .int .i64 tdy, .int .i64 lif, .int .i64 at_, .int .u64 (T : Int)] (fun _ _ _ h => h) (by rfl) (fun _ h => h) _ Try.underlying24 rfl (by kernel_rfl) (by assumption) ?_
      try simp only [Act.put, List.setIfInBounds_toArray, List.set_cons_zero, List.set_cons_succ]
      refine held_call 2 (some 10) 15 [(.tmp 8), (.tmp 9)] #[22, 24] #[.int .u64 (key : Int), .agg #[.int .i64 ser, .int .i64 cnt, .int .i64 prd, .int .i64 fst, .int .i64 lft, .int .i64 tdy, .int .i64 lif, .int .i64 at_, .int .u64 (T : Int)]] (by rfl) (by rfl) (by kernel_rfl) Try.func15 (by rfl) (by rfl) ?_
      refine (check_any false key hkk (⟨ser, cnt, prd, fst, lft, tdy, lif, at_, (T : Int)⟩ : Med) _ 0 hr HQ.out).mono ?_
      rintro e w2 ⟨rfl, hb2⟩
      have HB2 := Lib.hid ((below_drewN HB1.out 1).trans (hb2.mono HB1.out.size))
      have HX2 := Lib.hid (HX1.out.drew.below hb2 hl1)
      have hl2 := Nat.lt_of_lt_of_le hl1 hb2.size
      have hH2 : (fun W => Blk W w.heap.size 24 #[.int .i64 ser, .int .i64 cnt, .int .i64 prd, .int .i64 fst, .int .i64 lft, .int .i64 tdy, .int .i64 lif, .int .i64 at_, .int .u64 (T : Int)]) w2 := HX2.out
      clear hb2
      refine ⟨_, rfl, hH2, ?_⟩
      try simp only [Act.put, List.setIfInBounds_toArray, List.set_cons_zero, List.set_cons_succ]
      refine held_call 5 (some 13) 16 [(.tmp 11), (.tmp 12)] #[22, 24] #[.int .u64 (key : Int), .agg #[.int .i64 ser, .int .i64 cnt, .int .i64 prd, .int .i64 fst, .int .i64 lft, .int .i64 tdy, .int .i64 lif, .int .i64 at_, .int .u64 (T : Int)]] (by rfl) (by rfl) (by kernel_rfl) Try.func16 (by rfl) (by rfl) ?_
      refine (rcheck_any false key hkk (⟨ser, cnt, prd, fst, lft, tdy, lif, at_, (T : Int)⟩ : Med) _ 0 hr HQ.out).mono ?_
      rintro e w3 ⟨rfl, hb3⟩
      have HB3 := Lib.hid (HB2.out.trans (hb3.mono HB2.out.size))
      have HX3 := Lib.hid (HX2.out.below hb3 hl2)
      have hl3 := Nat.lt_of_lt_of_le hl2 hb3.size
      have hH3 : (fun W => Blk W w.heap.size 24 #[.int .i64 ser, .int .i64 cnt, .int .i64 prd, .int .i64 fst, .int .i64 lft, .int .i64 tdy, .int .i64 lif, .int .i64 at_, .int .u64 (T : Int)]) w3 := HX3.out
      clear hb3
      refine ⟨_, rfl, hH3, ?_⟩
      try simp only [Act.put, List.setIfInBounds_toArray, List.set_cons_zero, List.set_cons_succ]
      refine held_run 6 (some 14) (.binOp .neq 4 (.tmp 10) (.tmp 13) 4) ?v3_3_6 (by rfl) (by kernel_rfl) (by kernel_rfl) (by kernel_rfl) (fun _ _ _ h => h) (fun o ho w hS => ?y3_3_6) (by assumption) ?r3_3_6
      case y3_3_6 => (try dsimp only at hS); unfold execOp; simp only [ho]; go_simp; try with_reducible rfl
      try simp only [Act.put, List.setIfInBounds_toArray, List.set_cons_zero, List.set_cons_succ]
      refine wpAnyH_done (by kernel_rfl) ?_ _
      go_wp2_with
        (refine wpList_load_g 24 (.tmp 3) rfl rfl w.heap.size rfl _ _ HX3.out _ Try.underlying24 rfl (by kernel_rfl) ?_)
      refine (rright_any (⟨ser, cnt, prd, fst, lft, tdy, lif, at_, (T : Int)⟩ : Med) _).mono ?_
      rintro e w4 ⟨r', rfl, hr', hb4⟩
      obtain rfl := hr'.unique hr
      have HB4 := Lib.hid (HB3.out.trans (hb4.mono HB3.out.size))
      have HX4 := Lib.hid (HX3.out.below hb4 hl3)
      have hl4 := Nat.lt_of_lt_of_le hl3 hb4.size
      clear hb4 hr'
      go_wp2_with
        (refine wpList_load_g 24 (.tmp 3) rfl rfl w.heap.size rfl _ _ HX4.out _ Try.underlying24 rfl (by kernel_rfl) ?_)
      with_reducible refine (HSg.out _).mono ?_
      rintro e w5 ⟨rfl, hb5⟩
      have HB5 := Lib.hid (HB4.out.trans (hb5.mono HB4.out.size))
      have HX5 := Lib.hid (HX4.out.below hb5 hl4)
      have hl5 := Nat.lt_of_lt_of_le hl4 hb5.size
      clear hb5
      go_wp2_with
        (refine wpList_store_blk rfl 24 (.tmp 5) (.tmp 20) rfl w5.heap.size #[.int .i64 ser, .int .i64 cnt, .int .i64 prd, .int .i64 fst, .int .i64 lft, .int .i64 tdy, .int .i64 lif, .int .i64 at_, .int .u64 t] rfl rfl _ _ (Blk.new w5 24 #[.int .i64 0, .int .i64 0, .int .i64 0, .int .i64 0, .int .i64 0, .int .i64 0, .int .i64 0, .int .i64 0, .int .u64 0]) (by kernel_rfl) rfl (by simp [Value.oneCell']) ?_
         intro w6 hx6 hon6
         have hb6 := hon6.below (below_new w5 (.cells #[.int .i64 0, .int .i64 0, .int .i64 0, .int .i64 0, .int .i64 0, .int .i64 0, .int .i64 0, .int .i64 0, .int .u64 0] 24)) (Nat.le_refl _)
         have HB6 := Lib.hid (HB5.out.trans (hb6.mono HB5.out.size))
         have HX6 := Lib.hid (HX5.out.below hb6 hl5)
         have HY6 := Lib.hid hx6
         have hl6 : w5.heap.size < w6.heap.size := hx6.lt
         have hm6 : w.heap.size < w6.heap.size := by omega
         clear hx6 hon6 hb6)
      refine wp_region_held_drew (S := fun W => Blk W w.heap.size 24 #[.int .i64 ser, .int .i64 cnt, .int .i64 prd, .int .i64 fst, .int .i64 lft, .int .i64 tdy, .int .i64 lif, .int .i64 at_, .int .u64 (T : Int)] ∧ Blk W w5.heap.size 24 #[.int .i64 ser, .int .i64 cnt, .int .i64 prd, .int .i64 fst, .int .i64 lft, .int .i64 tdy, .int .i64 lif, .int .i64 at_, .int .u64 t]) (by kernel_rfl) (⟨HX6.out.drew, HY6.out.drew⟩) (fun hHeld => ?_)
      refine held_load 0 (some 21) 24 (.tmp 3) (by rfl) (by kernel_rfl) (by kernel_rfl) (by kernel_rfl) (w.heap.size) 24 #[.int .i64 ser, .int .i64 cnt, .int .i64 prd, .int .i64 fst, .int .i64 lft, .int .i64 tdy, .int .i64 lif, .int .i64 at_, .int .u64 (T : Int)] (fun _ _ _ h => h) (by rfl) (fun _ h => h.1) _ Try.underlying24 rfl (by kernel_rfl) (by assumption) ?_
      try simp only [Act.put, List.setIfInBounds_toArray, List.set_cons_zero, List.set_cons_succ]
      refine held_load 2 (some 23) 24 (.tmp 3) (by rfl) (by kernel_rfl) (by kernel_rfl) (by kernel_rfl) (w.heap.size) 24 #[.int .i64 ser, .int .i64 cnt, .int .i64 prd, .int .i64 fst, .int .i64 lft, .int .i64 tdy, .int .i64 lif, .int .i64 at_, .int .u64 (T : Int)] (fun _ _ _ h => h) (by rfl) (fun _ h => h.1) _ Try.underlying24 rfl (by kernel_rfl) (by assumption) ?_
      try simp only [Act.put, List.setIfInBounds_toArray, List.set_cons_zero, List.set_cons_succ]
      refine held_call 1 (some 22) 19 [(.tmp 21)] #[24] #[.agg #[.int .i64 ser, .int .i64 cnt, .int .i64 prd, .int .i64 fst, .int .i64 lft, .int .i64 tdy, .int .i64 lif, .int .i64 at_, .int .u64 (T : Int)]] (by rfl) (by rfl) (by kernel_rfl) Try.func19 (by rfl) (by rfl) ?_
      refine (body_any (⟨ser, cnt, prd, fst, lft, tdy, lif, at_, (T : Int)⟩ : Med) _ HG.out.1).mono ?_
      rintro e w7 ⟨v7, rfl, hown7, hb7⟩
      obtain ⟨A7, n7, c7, rfl, HN7, hc71, hc72, hr7⟩ := hown7.nam
      have HV7 := Lib.hid hr7
      have HB7 := Lib.hid ((below_drewN HB6.out 1).trans (hb7.mono HB6.out.size))
      have HX7 := Lib.hid (HX6.out.drew.below hb7 hm6)
      have HY7 := Lib.hid (HY6.out.drew.below hb7 hl6)
      have hl7 := Nat.lt_of_lt_of_le hl6 hb7.size
      have hm7 := Nat.lt_of_lt_of_le hm6 hb7.size
      have hH7 : (fun W => Blk W w.heap.size 24 #[.int .i64 ser, .int .i64 cnt, .int .i64 prd, .int .i64 fst, .int .i64 lft, .int .i64 tdy, .int .i64 lif, .int .i64 at_, .int .u64 (T : Int)] ∧ Blk W w5.heap.size 24 #[.int .i64 ser, .int .i64 cnt, .int .i64 prd, .int .i64 fst, .int .i64 lft, .int .i64 tdy, .int .i64 lif, .int .i64 at_, .int .u64 t]) w7 := ⟨HX7.out, HY7.out⟩
      clear hb7 hown7 hr7 hc71 hc72
      refine ⟨_, rfl, hH7, ?_⟩
      try simp only [Act.put, List.setIfInBounds_toArray, List.set_cons_zero, List.set_cons_succ]
      refine held_call 3 (some 24) 20 [(.tmp 23)] #[24] #[.agg #[.int .i64 ser, .int .i64 cnt, .int .i64 prd, .int .i64 fst, .int .i64 lft, .int .i64 tdy, .int .i64 lif, .int .i64 at_, .int .u64 (T : Int)]] (by rfl) (by rfl) (by kernel_rfl) Try.func20 (by rfl) (by rfl) ?_
      refine (rbody_any (⟨ser, cnt, prd, fst, lft, tdy, lif, at_, (T : Int)⟩ : Med) _ HG.out.1).mono ?_
      rintro e w8 ⟨v8, rfl, hown8, hb8⟩
      obtain ⟨A8, n8, c8, rfl, HN8, hc81, hc82, hr8⟩ := hown8.nam
      have HV8 := Lib.hid hr8
      have HV7_8 := Lib.hid (HV7.out.now hb8)
      have HB8 := Lib.hid (HB7.out.trans (hb8.mono HB7.out.size))
      have HX8 := Lib.hid (HX7.out.below hb8 hm7)
      have HY8 := Lib.hid (HY7.out.below hb8 hl7)
      have hl8 := Nat.lt_of_lt_of_le hl7 hb8.size
      have hm8 := Nat.lt_of_lt_of_le hm7 hb8.size
      have hH8 : (fun W => Blk W w.heap.size 24 #[.int .i64 ser, .int .i64 cnt, .int .i64 prd, .int .i64 fst, .int .i64 lft, .int .i64 tdy, .int .i64 lif, .int .i64 at_, .int .u64 (T : Int)] ∧ Blk W w5.heap.size 24 #[.int .i64 ser, .int .i64 cnt, .int .i64 prd, .int .i64 fst, .int .i64 lft, .int .i64 tdy, .int .i64 lif, .int .i64 at_, .int .u64 t]) w8 := ⟨HX8.out, HY8.out⟩
      clear hb8 hown8 hr8 hc81 hc82
      refine ⟨_, rfl, hH8, ?_⟩
      try simp only [Act.put, List.setIfInBounds_toArray, List.set_cons_zero, List.set_cons_succ]
      refine held_call 4 (some 25) 18 [(.tmp 22), (.tmp 24)] #[35, 35] #[.slice A7 n7 c7, .slice A8 n8 c8] (by rfl) (by rfl) (by kernel_rfl) Try.func18 (by rfl) (by rfl) ?_
      refine (sameb_any true _ _ _ _ _ _ _ _ _ _ _ HV7_8.out HV8.out (by simp)).mono ?_
      rintro e w' ⟨rfl, rfl⟩
      refine ⟨_, rfl, hH8, ?_⟩
      try simp only [Act.put, List.setIfInBounds_toArray, List.set_cons_zero, List.set_cons_succ]
      refine held_run 5 (some 26) (.move (.tmp 25)) ?v8_4_5 (by rfl) (by kernel_rfl) (by kernel_rfl) (by kernel_rfl) (fun _ _ _ h => h) (fun o ho w hS => ?y8_4_5) (by assumption) ?r8_4_5
      case y8_4_5 => (try dsimp only at hS); unfold execOp; simp only [ho]; go_simp; try with_reducible rfl
      try simp only [Act.put, List.setIfInBounds_toArray, List.set_cons_zero, List.set_cons_succ]
      refine held_load 6 (some 27) 24 (.tmp 5) (by rfl) (by kernel_rfl) (by kernel_rfl) (by kernel_rfl) (w5.heap.size) 24 #[.int .i64 ser, .int .i64 cnt, .int .i64 prd, .int .i64 fst, .int .i64 lft, .int .i64 tdy, .int .i64 lif, .int .i64 at_, .int .u64 t] (fun _ _ _ h => h) (by rfl) (fun _ h => h.2) _ Try.underlying24 rfl (by kernel_rfl) (by assumption) ?_
      try simp only [Act.put, List.setIfInBounds_toArray, List.set_cons_zero, List.set_cons_succ]
      refine held_run 7 (some 28) (.move (.tmp 0)) ?v8_4_7 (by rfl) (by kernel_rfl) (by kernel_rfl) (by kernel_rfl) (fun _ _ _ h => h) (fun o ho w hS => ?y8_4_7) (by assumption) ?r8_4_7
      case y8_4_7 => (try dsimp only at hS); unfold execOp; simp only [ho]; go_simp; try with_reducible rfl
      try simp only [Act.put, List.setIfInBounds_toArray, List.set_cons_zero, List.set_cons_succ]
      refine held_load 8 (some 29) 24 (.tmp 3) (by rfl) (by kernel_rfl) (by kernel_rfl) (by kernel_rfl) (w.heap.size) 24 #[.int .i64 ser, .int .i64 cnt, .int .i64 prd, .int .i64 fst, .int .i64 lft, .int .i64 tdy, .int .i64 lif, .int .i64 at_, .int .u64 (T : Int)] (fun _ _ _ h => h) (by rfl) (fun _ h => h.1) _ Try.underlying24 rfl (by kernel_rfl) (by assumption) ?_
      try simp only [Act.put, List.setIfInBounds_toArray, List.set_cons_zero, List.set_cons_succ]
      refine held_call 9 (some 30) 21 [(.tmp 28), (.tmp 29)] #[22, 24] #[.int .u64 (key : Int), .agg #[.int .i64 ser, .int .i64 cnt, .int .i64 prd, .int .i64 fst, .int .i64 lft, .int .i64 tdy, .int .i64 lif, .int .i64 at_, .int .u64 (T : Int)]] (by rfl) (by rfl) (by kernel_rfl) Try.func21 (by rfl) (by rfl) ?_
      refine (HRSg.out _).mono ?_
      rintro e w9 ⟨rfl, hb9⟩
      have HB9 := Lib.hid (HB8.out.trans (hb9.mono HB8.out.size))
      have HX9 := Lib.hid (HX8.out.below hb9 hm8)
      have HY9 := Lib.hid (HY8.out.below hb9 hl8)
      have hl9 := Nat.lt_of_lt_of_le hl8 hb9.size
      have hm9 := Nat.lt_of_lt_of_le hm8 hb9.size
      have hH9 : (fun W => Blk W w.heap.size 24 #[.int .i64 ser, .int .i64 cnt, .int .i64 prd, .int .i64 fst, .int .i64 lft, .int .i64 tdy, .int .i64 lif, .int .i64 at_, .int .u64 (T : Int)] ∧ Blk W w5.heap.size 24 #[.int .i64 ser, .int .i64 cnt, .int .i64 prd, .int .i64 fst, .int .i64 lft, .int .i64 tdy, .int .i64 lif, .int .i64 at_, .int .u64 t]) w9 := ⟨HX9.out, HY9.out⟩
      clear hb9
      refine ⟨_, rfl, hH9, ?_⟩
      try simp only [Act.put, List.setIfInBounds_toArray, List.set_cons_zero, List.set_cons_succ]
      refine held_run 10 (some 31) (.binOp .eql 24 (.tmp 27) (.tmp 30) 24) ?v8_4_10 (by rfl) (by kernel_rfl) (by kernel_rfl) (by kernel_rfl) (fun _ _ _ h => h) (fun o ho w hS => ?y8_4_10) (by assumption) ?r8_4_10
      case y8_4_10 => (try dsimp only at hS); unfold execOp; simp only [ho]; go_simp; try with_reducible rfl
      try simp only [Act.put, List.setIfInBounds_toArray, List.set_cons_zero, List.set_cons_succ]
      refine held_run 11 (some 32) (.pick (.tmp 26) (.tmp 31) (.const (Value.bool false))) ?v8_4_11 (by rfl) (by kernel_rfl) (by kernel_rfl) (by kernel_rfl) (fun _ _ _ h => h) (fun o ho w hS => ?y8_4_11) (by assumption) ?r8_4_11
      case y8_4_11 => (try dsimp only at hS); unfold execOp; simp only [ho]; go_simp; try with_reducible rfl
      try simp only [Act.put, List.setIfInBounds_toArray, List.set_cons_zero, List.set_cons_succ]
      refine held_run 12 (some 33) (.move (.tmp 32)) ?v8_4_12 (by rfl) (by kernel_rfl) (by kernel_rfl) (by kernel_rfl) (fun _ _ _ h => h) (fun o ho w hS => ?y8_4_12) (by assumption) ?r8_4_12
      case y8_4_12 => (try dsimp only at hS); unfold execOp; simp only [ho]; go_simp; try with_reducible rfl
      try simp only [Act.put, List.setIfInBounds_toArray, List.set_cons_zero, List.set_cons_succ]
      refine held_run 13 (some 34) (.move (.tmp 0)) ?v8_4_13 (by rfl) (by kernel_rfl) (by kernel_rfl) (by kernel_rfl) (fun _ _ _ h => h) (fun o ho w hS => ?y8_4_13) (by assumption) ?r8_4_13
      case y8_4_13 => (try dsimp only at hS); unfold execOp; simp only [ho]; go_simp; try with_reducible rfl
      try simp only [Act.put, List.setIfInBounds_toArray, List.set_cons_zero, List.set_cons_succ]
      refine held_load 14 (some 35) 24 (.tmp 5) (by rfl) (by kernel_rfl) (by kernel_rfl) (by kernel_rfl) (w5.heap.size) 24 #[.int .i64 ser, .int .i64 cnt, .int .i64 prd, .int .i64 fst, .int .i64 lft, .int .i64 tdy, .int .i64 lif, .int .i64 at_, .int .u64 t] (fun _ _ _ h => h) (by rfl) (fun _ h => h.2) _ Try.underlying24 rfl (by kernel_rfl) (by assumption) ?_
      try simp only [Act.put, List.setIfInBounds_toArray, List.set_cons_zero, List.set_cons_succ]
      refine held_call 15 (some 36) 15 [(.tmp 34), (.tmp 35)] #[22, 24] #[.int .u64 (key : Int), .agg #[.int .i64 ser, .int .i64 cnt, .int .i64 prd, .int .i64 fst, .int .i64 lft, .int .i64 tdy, .int .i64 lif, .int .i64 at_, .int .u64 t]] (by rfl) (by rfl) (by kernel_rfl) Try.func15 (by rfl) (by rfl) ?_
      refine (HCk.out _).mono ?_
      rintro e w10 ⟨rfl, hb10⟩
      have HB10 := Lib.hid (HB9.out.trans (hb10.mono HB9.out.size))
      have HX10 := Lib.hid (HX9.out.below hb10 hm9)
      have HY10 := Lib.hid (HY9.out.below hb10 hl9)
      have hl10 := Nat.lt_of_lt_of_le hl9 hb10.size
      have hm10 := Nat.lt_of_lt_of_le hm9 hb10.size
      have hH10 : (fun W => Blk W w.heap.size 24 #[.int .i64 ser, .int .i64 cnt, .int .i64 prd, .int .i64 fst, .int .i64 lft, .int .i64 tdy, .int .i64 lif, .int .i64 at_, .int .u64 (T : Int)] ∧ Blk W w5.heap.size 24 #[.int .i64 ser, .int .i64 cnt, .int .i64 prd, .int .i64 fst, .int .i64 lft, .int .i64 tdy, .int .i64 lif, .int .i64 at_, .int .u64 t]) w10 := ⟨HX10.out, HY10.out⟩
      clear hb10
      refine ⟨_, rfl, hH10, ?_⟩
      try simp only [Act.put, List.setIfInBounds_toArray, List.set_cons_zero, List.set_cons_succ]
      refine held_run 16 (some 37) (.pick (.tmp 33) (.tmp 36) (.const (Value.bool false))) ?v8_4_16 (by rfl) (by kernel_rfl) (by kernel_rfl) (by kernel_rfl) (fun _ _ _ h => h) (fun o ho w hS => ?y8_4_16) (by assumption) ?r8_4_16
      case y8_4_16 => (try dsimp only at hS); unfold execOp; simp only [ho]; go_simp; try with_reducible rfl
      try simp only [Act.put, List.setIfInBounds_toArray, List.set_cons_zero, List.set_cons_succ]
      refine held_run 17 (some 4) (.assign (.tmp 37)) ?v8_4_17 (by rfl) (by kernel_rfl) (by kernel_rfl) (by kernel_rfl) (fun _ _ _ h => h) (fun o ho w hS => ?y8_4_17) (by assumption) ?r8_4_17
      case y8_4_17 => (try dsimp only at hS); unfold execOp; simp only [ho]; go_simp; try with_reducible rfl
      try simp only [Act.put, List.setIfInBounds_toArray, List.set_cons_zero, List.set_cons_succ]
      refine wpAnyH_done (by kernel_rfl) ?_ _
      go_wp2_with fail
      go_ret
      exact ⟨rfl, HB10.out⟩
  · have d1 : (r != 0) = true := bne_iff_ne.2 h0
    have d2 : (r == 0) = false := beq_eq_false_iff_ne.2 h0
    have hq : checkB key (⟨ser, cnt, prd, fst, lft, tdy, lif, at_, (T : Int)⟩ : Med) r = false := decide_eq_false fun h => h0 h.1
    have HQ := Lib.hid hq
    clear h0 hq
    go_enter Try.func5, Try.ntmps5
    go_wp2_with fail
    have HBw0 := (Blk.new w 24 #[.int .i64 ser, .int .i64 cnt, .int .i64 prd, .int .i64 fst, .int .i64 lft, .int .i64 tdy, .int .i64 lif, .int .i64 at_, .int .u64 (T : Int)])
    have HLw0 := (below_new w (.cells #[.int .i64 ser, .int .i64 cnt, .int .i64 prd, .int .i64 fst, .int .i64 lft, .int .i64 tdy, .int .i64 lif, .int .i64 at_, .int .u64 (T : Int)] 24))
    have hsw0 : (w.alloc (.cells #[.int .i64 ser, .int .i64 cnt, .int .i64 prd, .int .i64 fst, .int .i64 lft, .int .i64 tdy, .int .i64 lif, .int .i64 at_, .int .u64 (T : Int)] 24)).heap.size = w.heap.size + 1 := by simp
    generalize w.alloc (.cells #[.int .i64 ser, .int .i64 cnt, .int .i64 prd, .int .i64 fst, .int .i64 lft, .int .i64 tdy, .int .i64 lif, .int .i64 at_, .int .u64 (T : Int)] 24) = w0 at HBw0 HLw0 hsw0 ⊢
    replace HBw0 := Lib.hid HBw0
    replace HLw0 := Lib.hid HLw0
    have hlw0 : w.heap.size < w0.heap.size := by omega
    replace hsw0 := Lib.hid hsw0
    refine (alive_any _).mono ?_
    rintro e w1 ⟨rfl, hb1⟩
    have HB1 := Lib.hid (HLw0.out.trans (hb1.mono HLw0.out.size))
    have HX1 := Lib.hid (HBw0.out.below hb1 hlw0)
    have hl1 := Nat.lt_of_lt_of_le hlw0 hb1.size
    clear hb1
    go_wp2_with fail
    refine wp_region_held_drew (S := fun W => Blk W w.heap.size 24 #[.int .i64 ser, .int .i64 cnt, .int .i64 prd, .int .i64 fst, .int .i64 lft, .int .i64 tdy, .int .i64 lif, .int .i64 at_, .int .u64 (T : Int)]) (by kernel_rfl) (HX1.out.drew) (fun hHeld => ?_)
    refine held_run 0 (some 8) (.move (.tmp 0)) ?v3_5_0 (by rfl) (by kernel_rfl) (by kernel_rfl) (by kernel_rfl) (fun _ _ _ h => h) (fun o ho w hS => ?y3_5_0) (by assumption) ?r3_5_0
    case y3_5_0 => (try dsimp only at hS); unfold execOp; simp only [ho]; go_simp; try with_reducible rfl
    try simp only [Act.put, List.setIfInBounds_toArray, List.set_cons_zero, List.set_cons_succ]
    refine held_load 1 (some 9) 24 (.tmp 3) (by rfl) (by kernel_rfl) (by kernel_rfl) (by kernel_rfl) (w.heap.size) 24 #[.int .i64 ser, .int .i64 cnt, .int .i64 prd, .int .i64 fst, .int .i64 lft, .int .i64 tdy, .int .i64 lif, .int .i64 at_, .int .u64 (T : Int)] (fun _ _ _ h => h) (by rfl) (fun _ h => h) _ Try.underlying24 rfl (by kernel_rfl) (by assumption) ?_
    try simp only [Act.put, List.setIfInBounds_toArray, List.set_cons_zero, List.set_cons_succ]
    refine held_run 3 (some 11) (.move (.tmp 0)) ?v3_5_3 (by rfl) (by kernel_rfl) (by kernel_rfl) (by kernel_rfl) (fun _ _ _ h => h) (fun o ho w hS => ?y3_5_3) (by assumption) ?r3_5_3
    case y3_5_3 => (try dsimp only at hS); unfold execOp; simp only [ho]; go_simp; try with_reducible rfl
    try simp only [Act.put, List.setIfInBounds_toArray, List.set_cons_zero, List.set_cons_succ]
    refine held_load 4 (some 12) 24 (.tmp 3) (by rfl) (by kernel_rfl) (by kernel_rfl) (by kernel_rfl) (w.heap.size) 24 #[.int .i64 ser, .int .i64 cnt, .int .i64 prd, .int .i64 fst, .int .i64 lft, .int .i64 tdy, .int .i64 lif, .int .i64 at_, .int .u64 (T : Int)] (fun _ _ _ h => h) (by rfl) (fun _ h => h) _ Try.underlying24 rfl (by kernel_rfl) (by assumption) ?_
    try simp only [Act.put, List.setIfInBounds_toArray, List.set_cons_zero, List.set_cons_succ]
    refine held_call 2 (some 10) 15 [(.tmp 8), (.tmp 9)] #[22, 24] #[.int .u64 (key : Int), .agg #[.int .i64 ser, .int .i64 cnt, .int .i64 prd, .int .i64 fst, .int .i64 lft, .int .i64 tdy, .int .i64 lif, .int .i64 at_, .int .u64 (T : Int)]] (by rfl) (by rfl) (by kernel_rfl) Try.func15 (by rfl) (by rfl) ?_
    refine (check_any false key hkk (⟨ser, cnt, prd, fst, lft, tdy, lif, at_, (T : Int)⟩ : Med) _ r hr HQ.out).mono ?_
    rintro e w2 ⟨rfl, hb2⟩
    have HB2 := Lib.hid ((below_drewN HB1.out 1).trans (hb2.mono HB1.out.size))
    have HX2 := Lib.hid (HX1.out.drew.below hb2 hl1)
    have hl2 := Nat.lt_of_lt_of_le hl1 hb2.size
    have hH2 : (fun W => Blk W w.heap.size 24 #[.int .i64 ser, .int .i64 cnt, .int .i64 prd, .int .i64 fst, .int .i64 lft, .int .i64 tdy, .int .i64 lif, .int .i64 at_, .int .u64 (T : Int)]) w2 := HX2.out
    clear hb2
    refine ⟨_, rfl, hH2, ?_⟩
    try simp only [Act.put, List.setIfInBounds_toArray, List.set_cons_zero, List.set_cons_succ]
    refine held_call 5 (some 13) 16 [(.tmp 11), (.tmp 12)] #[22, 24] #[.int .u64 (key : Int), .agg #[.int .i64 ser, .int .i64 cnt, .int .i64 prd, .int .i64 fst, .int .i64 lft, .int .i64 tdy, .int .i64 lif, .int .i64 at_, .int .u64 (T : Int)]] (by rfl) (by rfl) (by kernel_rfl) Try.func16 (by rfl) (by rfl) ?_
    refine (rcheck_any false key hkk (⟨ser, cnt, prd, fst, lft, tdy, lif, at_, (T : Int)⟩ : Med) _ r hr HQ.out).mono ?_
    rintro e w3 ⟨rfl, hb3⟩
    have HB3 := Lib.hid (HB2.out.trans (hb3.mono HB2.out.size))
    have HX3 := Lib.hid (HX2.out.below hb3 hl2)
    have hl3 := Nat.lt_of_lt_of_le hl2 hb3.size
    have hH3 : (fun W => Blk W w.heap.size 24 #[.int .i64 ser, .int .i64 cnt, .int .i64 prd, .int .i64 fst, .int .i64 lft, .int .i64 tdy, .int .i64 lif, .int .i64 at_, .int .u64 (T : Int)]) w3 := HX3.out
    clear hb3
    refine ⟨_, rfl, hH3, ?_⟩
    try simp only [Act.put, List.setIfInBounds_toArray, List.set_cons_zero, List.set_cons_succ]
    refine held_run 6 (some 14) (.binOp .neq 4 (.tmp 10) (.tmp 13) 4) ?v3_5_6 (by rfl) (by kernel_rfl) (by kernel_rfl) (by kernel_rfl) (fun _ _ _ h => h) (fun o ho w hS => ?y3_5_6) (by assumption) ?r3_5_6
    case y3_5_6 => (try dsimp only at hS); unfold execOp; simp only [ho]; go_simp; try with_reducible rfl
    try simp only [Act.put, List.setIfInBounds_toArray, List.set_cons_zero, List.set_cons_succ]
    refine wpAnyH_done (by kernel_rfl) ?_ _
    go_wp2_with
      (refine wpList_load_g 24 (.tmp 3) rfl rfl w.heap.size rfl _ _ HX3.out _ Try.underlying24 rfl (by kernel_rfl) ?_)
    refine (rright_any (⟨ser, cnt, prd, fst, lft, tdy, lif, at_, (T : Int)⟩ : Med) _).mono ?_
    rintro e w4 ⟨r', rfl, hr', hb4⟩
    obtain rfl := hr'.unique hr
    have HB4 := Lib.hid (HB3.out.trans (hb4.mono HB3.out.size))
    have HX4 := Lib.hid (HX3.out.below hb4 hl3)
    have hl4 := Nat.lt_of_lt_of_le hl3 hb4.size
    clear hb4 hr'
    go_wp2_with fail
    go_ret
    exact ⟨rfl, HB4.out⟩


theorem own_mediaSigns : ownKnob Try.prog.godebug = none := by kernel_rfl
theorem laidOut_mediaSigns : laidOutB Try.prog = true := by kernel_rfl
set_option maxRecDepth 100000 in
theorem mediaSigns_lifted (os : Os) (started : os.Started) (H : Type) (enc : TypeId × Value → H) :
    ReturnsInHanded {} Try.checked os 5 .any (Rows.mediaSignsSpec.pre6 enc Try.prog Try.f5 Rows.mediaSignsRow.domain false) (Rows.mediaSignsSpec.post enc Try.prog Try.f5 false true false false) := by
  refine returnsInHanded_of_change (C := Try.checked) own_mediaSigns started (by kernel_rfl) Try.func5
    (ChangeSpec.witness6 (enc := enc) (C := Try.checked) false ⟨#[], #[.int .u64 0, .agg #[.int .i64 0, .int .i64 0, .int .i64 0, .int .i64 0, .int .i64 0, .int .i64 0, .int .i64 0, .int .i64 0, .int .u64 0]], []⟩ 8 (by kernel_rfl) (by kernel_rfl) (by kernel_rfl) (by kernel_rfl)) ?_
  intro W base args ds gs before hval0 hW hcnd _
  have hval : ∀ (j : Nat) t v, Try.f5.params[j]? = some t → args[j]? = some v → Value.okWide Try.prog W .any base t v := hval0
  have hW' := hW
  obtain ⟨p, q, hA0, hV, rfl, hfz, hnd⟩ := hW
  have hA : DataW.TrodAll enc Try.prog W 0 (fun _ => true) true Try.f5.params.toList args.toList ds p := hA0
  rw [Try.params5] at hA hval
  obtain ⟨v0, vs0, d0, ds0, p0, q0, hargs, rfl, rfl, h0, r0⟩ := trodAll_cons hA
  obtain ⟨v1, vs1, d1, ds1, p1, q1, rfl, rfl, rfl, h1, r1⟩ := trodAll_cons r0
  obtain ⟨rfl, rfl, rfl⟩ := trodAll_nil r1
  obtain rfl : args = #[v0, v1] := by cases args; simp_all
  obtain ⟨rfl, rfl⟩ := trodVars_none hV
  obtain ⟨k, rfl, k0, k1⟩ := open_u64 Try.underlying22 (hval 0 22 v0 rfl rfl) h0
  obtain ⟨ol, rfl, oll, of⟩ := open_agg Try.underlying24 (by kernel_rfl) (by kernel_rfl) (hval 1 24 v1 rfl rfl) h1
  obtain ⟨u0, u1, u2, u3, u4, u5, u6, u7, u8, rfl⟩ := list_len9 ol oll
  obtain ⟨ser, rfl, wser⟩ := field_int Try.underlying3 (of 0 _ _ rfl rfl)
  obtain ⟨cnt, rfl, wcnt⟩ := field_int Try.underlying3 (of 1 _ _ rfl rfl)
  obtain ⟨prd, rfl, wprd⟩ := field_int Try.underlying3 (of 2 _ _ rfl rfl)
  obtain ⟨fst, rfl, wfst⟩ := field_int Try.underlying3 (of 3 _ _ rfl rfl)
  obtain ⟨lft, rfl, wlft⟩ := field_int Try.underlying3 (of 4 _ _ rfl rfl)
  obtain ⟨tdy, rfl, wtdy⟩ := field_int Try.underlying3 (of 5 _ _ rfl rfl)
  obtain ⟨lif, rfl, wlif⟩ := field_int Try.underlying3 (of 6 _ _ rfl rfl)
  obtain ⟨at_, rfl, wat_⟩ := field_int Try.underlying3 (of 7 _ _ rfl rfl)
  obtain ⟨tg, rfl, wtg⟩ := field_int Try.underlying22 (of 8 _ _ rfl rfl)
  have ht := bounds_u64 wtg
  obtain ⟨T, rfl⟩ := Int.eq_ofNat_of_zero_le ht.1
  have hT : T < 18446744073709551616 := by omega
  refine (mediaSigns_any W k ⟨k0, k1⟩ ser cnt prd fst lft tdy lif at_ T hT).mono fun e W' ⟨he, hb⟩ => ?_
  subst he
  exact ⟨_, rfl, law_post laidOut_mediaSigns (by kernel_rfl) rfl rfl Try.underlying4 hW' rfl hb⟩

theorem mediaSigns_holds : Rows.MediaSignsSaid :=
  OpenClaim.holds_of_wide 5 Try.f5 rfl rfl rfl rfl rfl rfl rfl ⟨rfl, rfl, rfl, rfl, rfl⟩ rfl rfl rfl rfl rfl (by kernel_rfl) Try.func5 (by kernel_rfl)
    (of_decide_eq_true (by kernel_rfl)) (by unfold Func.isWrapper; rw [if_neg (by decide +kernel)]; exact ⟨rfl, rfl⟩)
    (fun os started H enc _ => mediaSigns_lifted os started H enc)
#print axioms mediaSigns_holds
end Go.Proofs.Ythlhphifibldnaa
