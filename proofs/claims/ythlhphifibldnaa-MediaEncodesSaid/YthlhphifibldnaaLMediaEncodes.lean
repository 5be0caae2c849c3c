/-
  MediaEncodes answers true for every input. Its conditions: none.
-/
import Derived.Test.YthlhphifibldnaaRowS
import Derived.Test.YthlhphifibldnaaMedL
namespace Go.Proofs.Ythlhphifibldnaa
open Go.ChangeShapes Go.WideShapes Go.ChangeAt Go.RowKit

set_option maxRecDepth 100000 in
set_option maxHeartbeats 4000000 in
theorem mediaEncodes_any (w : World) (ser cnt prd fst lft tdy lif at_ : Int) (T : Nat) (hT : T < 18446744073709551616) :
    Calls Try.prog 6 #[.agg #[.int .i64 ser, .int .i64 cnt, .int .i64 prd, .int .i64 fst, .int .i64 lft, .int .i64 tdy, .int .i64 lif, .int .i64 at_, .int .u64 (T : Int)]] w fun e w' => e = .returned (.bool true) ∧ Below w.heap.size w w' := by
  obtain ⟨r, hr⟩ := RightE.has (⟨ser, cnt, prd, fst, lft, tdy, lif, at_, (T : Int)⟩ : Med)
  by_cases h0 : r = 0
  · subst h0
    have HG := Lib.hid hr.ok
    go_enter Try.func6, Try.ntmps6
    go_wp2_with fail
    have HBw0 := (Blk.new w 24 #[.int .i64 ser, .int .i64 cnt, .int .i64 prd, .int .i64 fst, .int .i64 lft, .int .i64 tdy, .int .i64 lif, .int .i64 at_, .int .u64 (T : Int)])
    have HLw0 := (below_new w (.cells #[.int .i64 ser, .int .i64 cnt, .int .i64 prd, .int .i64 fst, .int .i64 lft, .int .i64 tdy, .int .i64 lif, .int .i64 at_, .int .u64 (T : Int)] 24))
    have hsw0 : (w.alloc (.cells #[.int .i64 ser, .int .i64 cnt, .int .i64 prd, .int .i64 fst, .int .i64 lft, .int .i64 tdy, .int .i64 lif, .int .i64 at_, .int .u64 (T : Int)] 24)).heap.size = w.heap.size + 1 := by simp
    generalize w.alloc (.cells #[.int .i64 ser, .int .i64 cnt, .int .i64 prd, .int .i64 fst, .int .i64 lft, .int .i64 tdy, .int .i64 lif, .int .i64 at_, .int .u64 (T : Int)] 24) = w0 at HBw0 HLw0 hsw0 ⊢
    replace HBw0 := Lib.hid HBw0
    replace HLw0 := Lib.hid HLw0
    have hlw0 : w.heap.size < w0.heap.size := by omega
    replace hsw0 := Lib.hid hsw0
    refine (alive_any _).mono ?_
    rintro e w1 ⟨rfl, hb1⟩
    have HB1 := Lib.hid (HLw0.out.trans (hb1.mono HLw0.out.size))
    have HX1 := Lib.hid (HBw0.out.below hb1 hlw0)
    have hl1 := Nat.lt_of_lt_of_le hlw0 hb1.size
    clear hb1
    go_wp2_with fail
    refine wp_region_held_drew (S := fun W => Blk W w.heap.size 24 #[.int .i64 ser, .int .i64 cnt, .int .i64 prd, .int .i64 fst, .int .i64 lft, .int .i64 tdy, .int .i64 lif, .int .i64 at_, .int .u64 (T : Int)]) (by kernel_rfl) (HX1.out.drew) (fun hHeld => ?_)
    refine held_load 0 (some 5) 24 (.tmp 1) (by rfl) (by kernel_rfl) (by kernel_rfl) (by kernel_rfl) (w.heap.size) 24 #[.int .i64 ser, .int .i64 cnt, .int .i64 prd, .int .i64 fst, .int .i64 lft, .int .i64 tdy, .int .i64 lif, .int .i64 at_, .int .u64 (T : Int)] (fun _ _ _ h => h) (by rfl) (fun _ h => h) _ Try.underlying24 rfl (by kernel_rfl) (by assumption) ?_
    try simp only [Act.put, List.setIfInBounds_toArray, List.set_cons_zero, List.set_cons_succ]
    refine held_call 1 (some 6) 12 [(.tmp 5)] #[24] #[.agg #[.int .i64 ser, .int .i64 cnt, .int .i64 prd, .int .i64 fst, .int .i64 lft, .int .i64 tdy, .int .i64 lif, .int .i64 at_, .int .u64 (T : Int)]] (by rfl) (by rfl) (by kernel_rfl) Try.func12 (by rfl) (by rfl) ?_
    refine (rright_any (⟨ser, cnt, prd, fst, lft, tdy, lif, at_, (T : Int)⟩ : Med) _).mono ?_
    rintro e w2 ⟨r', rfl, hr', hb2⟩
    obtain rfl := hr'.unique hr
    have HB2 := Lib.hid ((below_drewN HB1.out 1).trans (hb2.mono HB1.out.size))
    have HX2 := Lib.hid (HX1.out.drew.below hb2 hl1)
    have hl2 := Nat.lt_of_lt_of_le hl1 hb2.size
    have hH2 : (fun W => Blk W w.heap.size 24 #[.int .i64 ser, .int .i64 cnt, .int .i64 prd, .int .i64 fst, .int .i64 lft, .int .i64 tdy, .int .i64 lif, .int .i64 at_, .int .u64 (T : Int)]) w2 := HX2.out
    clear hb2 hr'
    refine ⟨_, rfl, hH2, ?_⟩
    try simp only [Act.put, List.setIfInBounds_toArray, List.set_cons_zero, List.set_cons_succ]
    refine held_run 2 (some 7) (.binOp .neq 26 (.tmp 6) (.const (.int .i64 0)) 26) ?v3_1_2 (by rfl) (by kernel_rfl) (by kernel_rfl) (by kernel_rfl) (fun _ _ _ h => h) (fun o ho w hS => ?y3_1_2) (by assumption) ?r3_1_2
    case y3_1_2 => (try dsimp only at hS); unfold execOp; simp only [ho]; go_simp; try with_reducible rfl
    try simp only [Act.put, List.setIfInBounds_toArray, List.set_cons_zero, List.set_cons_succ]
    refine held_run 3 (some 8) (.move (.tmp 7)) ?v3_1_3 (by rfl) (by kernel_rfl) (by kernel_rfl) (by kernel_rfl) (fun _ _ _ h => h) (fun o ho w hS => ?y3_1_3) (by assumption) ?r3_1_3
    case y3_1_3 => (try dsimp only at hS); unfold execOp; simp only [ho]; go_simp; try with_reducible rfl
    try simp only [Act.put, List.setIfInBounds_toArray, List.set_cons_zero, List.set_cons_succ]
    refine held_load 4 (some 9) 24 (.tmp 1) (by rfl) (by kernel_rfl) (by kernel_rfl) (by kernel_rfl) (w.heap.size) 24 #[.int .i64 ser, .int .i64 cnt, .int .i64 prd, .int .i64 fst, .int .i64 lft, .int .i64 tdy, .int .i64 lif, .int .i64 at_, .int .u64 (T : Int)] (fun _ _ _ h => h) (by rfl) (fun _ h => h) _ Try.underlying24 rfl (by kernel_rfl) (by assumption) ?_
    try simp only [Act.put, List.setIfInBounds_toArray, List.set_cons_zero, List.set_cons_succ]
    refine held_load 6 (some 11) 24 (.tmp 1) (by rfl) (by kernel_rfl) (by kernel_rfl) (by kernel_rfl) (w.heap.size) 24 #[.int .i64 ser, .int .i64 cnt, .int .i64 prd, .int .i64 fst, .int .i64 lft, .int .i64 tdy, .int .i64 lif, .int .i64 at_, .int .u64 (T : Int)] (fun _ _ _ h => h) (by rfl) (fun _ h => h) _ Try.underlying24 rfl (by kernel_rfl) (by assumption) ?_
    try simp only [Act.put, List.setIfInBounds_toArray, List.set_cons_zero, List.set_cons_succ]
    refine held_call 5 (some 10) 22 [(.tmp 9)] #[24] #[.agg #[.int .i64 ser, .int .i64 cnt, .int .i64 prd, .int .i64 fst, .int .i64 lft, .int .i64 tdy, .int .i64 lif, .int .i64 at_, .int .u64 (T : Int)]] (by rfl) (by rfl) (by kernel_rfl) Try.func22 (by rfl) (by rfl) ?_
    refine (encode_any (⟨ser, cnt, prd, fst, lft, tdy, lif, at_, (T : Int)⟩ : Med) _ T rfl hT HG.out.1).mono ?_
    rintro e w3 ⟨v3, rfl, hown3, hb3⟩
    obtain ⟨A3, n3, c3, rfl, HN3, hc31, hc32, hr3⟩ := hown3.nam
    have HV3 := Lib.hid hr3
    have HB3 := Lib.hid (HB2.out.trans (hb3.mono HB2.out.size))
    have HX3 := Lib.hid (HX2.out.below hb3 hl2)
    have hl3 := Nat.lt_of_lt_of_le hl2 hb3.size
    have hH3 : (fun W => Blk W w.heap.size 24 #[.int .i64 ser, .int .i64 cnt, .int .i64 prd, .int .i64 fst, .int .i64 lft, .int .i64 tdy, .int .i64 lif, .int .i64 at_, .int .u64 (T : Int)]) w3 := HX3.out
    clear hb3 hown3 hr3 hc31 hc32
    refine ⟨_, rfl, hH3, ?_⟩
    try simp only [Act.put, List.setIfInBounds_toArray, List.set_cons_zero, List.set_cons_succ]
    refine held_call 7 (some 12) 23 [(.tmp 11)] #[24] #[.agg #[.int .i64 ser, .int .i64 cnt, .int .i64 prd, .int .i64 fst, .int .i64 lft, .int .i64 tdy, .int .i64 lif, .int .i64 at_, .int .u64 (T : Int)]] (by rfl) (by rfl) (by kernel_rfl) Try.func23 (by rfl) (by rfl) ?_
    refine (rencode_any (⟨ser, cnt, prd, fst, lft, tdy, lif, at_, (T : Int)⟩ : Med) _ T rfl hT HG.out.1).mono ?_
    rintro e w4 ⟨v4, rfl, hown4, hb4⟩
    obtain ⟨A4, n4, c4, rfl, HN4, hc41, hc42, hr4⟩ := hown4.nam
    have HV4 := Lib.hid hr4
    have HV3_4 := Lib.hid (HV3.out.now hb4)
    have HB4 := Lib.hid (HB3.out.trans (hb4.mono HB3.out.size))
    have HX4 := Lib.hid (HX3.out.below hb4 hl3)
    have hl4 := Nat.lt_of_lt_of_le hl3 hb4.size
    have hH4 : (fun W => Blk W w.heap.size 24 #[.int .i64 ser, .int .i64 cnt, .int .i64 prd, .int .i64 fst, .int .i64 lft, .int .i64 tdy, .int .i64 lif, .int .i64 at_, .int .u64 (T : Int)]) w4 := HX4.out
    clear hb4 hown4 hr4 hc41 hc42
    refine ⟨_, rfl, hH4, ?_⟩
    try simp only [Act.put, List.setIfInBounds_toArray, List.set_cons_zero, List.set_cons_succ]
    refine held_call 8 (some 13) 18 [(.tmp 10), (.tmp 12)] #[35, 35] #[.slice A3 n3 c3, .slice A4 n4 c4] (by rfl) (by rfl) (by kernel_rfl) Try.func18 (by rfl) (by rfl) ?_
    refine (sameb_any true _ _ _ _ _ _ _ _ _ _ _ HV3_4.out HV4.out (by simp)).mono ?_
    rintro e w' ⟨rfl, rfl⟩
    refine ⟨_, rfl, hH4, ?_⟩
    try simp only [Act.put, List.setIfInBounds_toArray, List.set_cons_zero, List.set_cons_succ]
    refine held_run 9 (some 14) (.pick (.tmp 8) (.const (Value.bool true)) (.tmp 13)) ?v3_1_9 (by rfl) (by kernel_rfl) (by kernel_rfl) (by kernel_rfl) (fun _ _ _ h => h) (fun o ho w hS => ?y3_1_9) (by assumption) ?r3_1_9
    case y3_1_9 => (try dsimp only at hS); unfold execOp; simp only [ho]; go_simp; try with_reducible rfl
    try simp only [Act.put, List.setIfInBounds_toArray, List.set_cons_zero, List.set_cons_succ]
    refine held_run 10 (some 2) (.assign (.tmp 14)) ?v3_1_10 (by rfl) (by kernel_rfl) (by kernel_rfl) (by kernel_rfl) (fun _ _ _ h => h) (fun o ho w hS => ?y3_1_10) (by assumption) ?r3_1_10
    case y3_1_10 => (try dsimp only at hS); unfold execOp; simp only [ho]; go_simp; try with_reducible rfl
    try simp only [Act.put, List.setIfInBounds_toArray, List.set_cons_zero, List.set_cons_succ]
    refine wpAnyH_done (by kernel_rfl) ?_ _
    go_wp2_with fail
    go_ret
    exact ⟨rfl, HB4.out⟩
  · have d1 : (r != 0) = true := bne_iff_ne.2 h0
    have d2 : (r == 0) = false := beq_eq_false_iff_ne.2 h0
    clear h0
    go_enter Try.func6, Try.ntmps6
    go_wp2_with fail
    have HBw0 := (Blk.new w 24 #[.int .i64 ser, .int .i64 cnt, .int .i64 prd, .int .i64 fst, .int .i64 lft, .int .i64 tdy, .int .i64 lif, .int .i64 at_, .int .u64 (T : Int)])
    have HLw0 := (below_new w (.cells #[.int .i64 ser, .int .i64 cnt, .int .i64 prd, .int .i64 fst, .int .i64 lft, .int .i64 tdy, .int .i64 lif, .int .i64 at_, .int .u64 (T : Int)] 24))
    have hsw0 : (w.alloc (.cells #[.int .i64 ser, .int .i64 cnt, .int .i64 prd, .int .i64 fst, .int .i64 lft, .int .i64 tdy, .int .i64 lif, .int .i64 at_, .int .u64 (T : Int)] 24)).heap.size = w.heap.size + 1 := by simp
    generalize w.alloc (.cells #[.int .i64 ser, .int .i64 cnt, .int .i64 prd, .int .i64 fst, .int .i64 lft, .int .i64 tdy, .int .i64 lif, .int .i64 at_, .int .u64 (T : Int)] 24) = w0 at HBw0 HLw0 hsw0 ⊢
    replace HBw0 := Lib.hid HBw0
    replace HLw0 := Lib.hid HLw0
    have hlw0 : w.heap.size < w0.heap.size := by omega
    replace hsw0 := Lib.hid hsw0
    refine (alive_any _).mono ?_
    rintro e w1 ⟨rfl, hb1⟩
    have HB1 := Lib.hid (HLw0.out.trans (hb1.mono HLw0.out.size))
    have HX1 := Lib.hid (HBw0.out.below hb1 hlw0)
    have hl1 := Nat.lt_of_lt_of_le hlw0 hb1.size
    clear hb1
    go_wp2_with fail
    refine wp_region_held_drew (S := fun W => Blk W w.heap.size 24 #[.int .i64 ser, .int .i64 cnt, .int .i64 prd, .int .i64 fst, .int .i64 lft, .int .i64 tdy, .int .i64 lif, .int .i64 at_, .int .u64 (T : Int)]) (by kernel_rfl) (HX1.out.drew) (fun hHeld => ?_)
    refine held_load 0 (some 5) 24 (.tmp 1) (by rfl) (by kernel_rfl) (by kernel_rfl) (by kernel_rfl) (w.heap.size) 24 #[.int .i64 ser, .int .i64 cnt, .int .i64 prd, .int .i64 fst, .int .i64 lft, .int .i64 tdy, .int .i64 lif, .int .i64 at_, .int .u64 (T : Int)] (fun _ _ _ h => h) (by rfl) (fun _ h => h) _ Try.underlying24 rfl (by kernel_rfl) (by assumption) ?_
    try simp only [Act.put, List.setIfInBounds_toArray, List.set_cons_zero, List.set_cons_succ]
    refine held_call 1 (some 6) 12 [(.tmp 5)] #[24] #[.agg #[.int .i64 ser, .int .i64 cnt, .int .i64 prd, .int .i64 fst, .int .i64 lft, .int .i64 tdy, .int .i64 lif, .int .i64 at_, .int .u64 (T : Int)]] (by rfl) (by rfl) (by kernel_rfl) Try.func12 (by rfl) (by rfl) ?_
    refine (rright_any (⟨ser, cnt, prd, fst, lft, tdy, lif, at_, (T : Int)⟩ : Med) _).mono ?_
    rintro e w2 ⟨r', rfl, hr', hb2⟩
    obtain rfl := hr'.unique hr
    have HB2 := Lib.hid ((below_drewN HB1.out 1).trans (hb2.mono HB1.out.size))
    have HX2 := Lib.hid (HX1.out.drew.below hb2 hl1)
    have hl2 := Nat.lt_of_lt_of_le hl1 hb2.size
    have hH2 : (fun W => Blk W w.heap.size 24 #[.int .i64 ser, .int .i64 cnt, .int .i64 prd, .int .i64 fst, .int .i64 lft, .int .i64 tdy, .int .i64 lif, .int .i64 at_, .int .u64 (T : Int)]) w2 := HX2.out
    clear hb2 hr'
    refine ⟨_, rfl, hH2, ?_⟩
    try simp only [Act.put, List.setIfInBounds_toArray, List.set_cons_zero, List.set_cons_succ]
    refine held_run 2 (some 7) (.binOp .neq 26 (.tmp 6) (.const (.int .i64 0)) 26) ?v3_2_2 (by rfl) (by kernel_rfl) (by kernel_rfl) (by kernel_rfl) (fun _ _ _ h => h) (fun o ho w hS => ?y3_2_2) (by assumption) ?r3_2_2
    case y3_2_2 => (try dsimp only at hS); unfold execOp; simp only [ho]; go_simp; try with_reducible rfl
    try simp only [Act.put, List.setIfInBounds_toArray, List.set_cons_zero, List.set_cons_succ]
    refine held_run 3 (some 8) (.move (.tmp 7)) ?v3_2_3 (by rfl) (by kernel_rfl) (by kernel_rfl) (by kernel_rfl) (fun _ _ _ h => h) (fun o ho w hS => ?y3_2_3) (by assumption) ?r3_2_3
    case y3_2_3 => (try dsimp only at hS); unfold execOp; simp only [ho]; go_simp; try with_reducible rfl
    try simp only [Act.put, List.setIfInBounds_toArray, List.set_cons_zero, List.set_cons_succ]
    refine held_skip 4 (some 9) (by rfl) (by kernel_rfl) (by kernel_rfl) (by kernel_rfl) (fun _ _ _ h => h) (by assumption) ?_
    try simp only [Act.put, List.setIfInBounds_toArray, List.set_cons_zero, List.set_cons_succ]
    refine held_skip 5 (some 10) (by rfl) (by kernel_rfl) (by kernel_rfl) (by kernel_rfl) (fun _ _ _ h => h) (by assumption) ?_
    try simp only [Act.put, List.setIfInBounds_toArray, List.set_cons_zero, List.set_cons_succ]
    refine held_skip 6 (some 11) (by rfl) (by kernel_rfl) (by kernel_rfl) (by kernel_rfl) (fun _ _ _ h => h) (by assumption) ?_
    try simp only [Act.put, List.setIfInBounds_toArray, List.set_cons_zero, List.set_cons_succ]
    refine held_skip 7 (some 12) (by rfl) (by kernel_rfl) (by kernel_rfl) (by kernel_rfl) (fun _ _ _ h => h) (by assumption) ?_
    try simp only [Act.put, List.setIfInBounds_toArray, List.set_cons_zero, List.set_cons_succ]
    refine held_skip 8 (some 13) (by rfl) (by kernel_rfl) (by kernel_rfl) (by kernel_rfl) (fun _ _ _ h => h) (by assumption) ?_
    try simp only [Act.put, List.setIfInBounds_toArray, List.set_cons_zero, List.set_cons_succ]
    refine held_run 9 (some 14) (.pick (.tmp 8) (.const (Value.bool true)) (.tmp 13)) ?v3_2_9 (by rfl) (by kernel_rfl) (by kernel_rfl) (by kernel_rfl) (fun _ _ _ h => h) (fun o ho w hS => ?y3_2_9) (by assumption) ?r3_2_9
    case y3_2_9 => (try dsimp only at hS); unfold execOp; simp only [ho]; go_simp; try with_reducible rfl
    try simp only [Act.put, List.setIfInBounds_toArray, List.set_cons_zero, List.set_cons_succ]
    refine held_run 10 (some 2) (.assign (.tmp 14)) ?v3_2_10 (by rfl) (by kernel_rfl) (by kernel_rfl) (by kernel_rfl) (fun _ _ _ h => h) (fun o ho w hS => ?y3_2_10) (by assumption) ?r3_2_10
    case y3_2_10 => (try dsimp only at hS); unfold execOp; simp only [ho]; go_simp; try with_reducible rfl
    try simp only [Act.put, List.setIfInBounds_toArray, List.set_cons_zero, List.set_cons_succ]
    refine wpAnyH_done (by kernel_rfl) ?_ _
    go_wp2_with fail
    go_ret
    exact ⟨rfl, HB2.out⟩


theorem own_mediaEncodes : ownKnob Try.prog.godebug = none := by kernel_rfl
theorem laidOut_mediaEncodes : laidOutB Try.prog = true := by kernel_rfl
set_option maxRecDepth 100000 in
theorem mediaEncodes_lifted (os : Os) (started : os.Started) (H : Type) (enc : TypeId × Value → H) :
    ReturnsInHanded {} Try.checked os 6 .any (Rows.mediaEncodesSpec.pre6 enc Try.prog Try.f6 Rows.mediaEncodesRow.domain false) (Rows.mediaEncodesSpec.post enc Try.prog Try.f6 false true false false) := by
  refine returnsInHanded_of_change (C := Try.checked) own_mediaEncodes started (by kernel_rfl) Try.func6
    (ChangeSpec.witness6 (enc := enc) (C := Try.checked) false ⟨#[], #[.agg #[.int .i64 0, .int .i64 0, .int .i64 0, .int .i64 0, .int .i64 0, .int .i64 0, .int .i64 0, .int .i64 0, .int .u64 0]], []⟩ 8 (by kernel_rfl) (by kernel_rfl) (by kernel_rfl) (by kernel_rfl)) ?_
  intro W base args ds gs before hval0 hW hcnd _
  have hval : ∀ (j : Nat) t v, Try.f6.params[j]? = some t → args[j]? = some v → Value.okWide Try.prog W .any base t v := hval0
  have hW' := hW
  obtain ⟨p, q, hA0, hV, rfl, hfz, hnd⟩ := hW
  have hA : DataW.TrodAll enc Try.prog W 0 (fun _ => true) true Try.f6.params.toList args.toList ds p := hA0
  rw [Try.params6] at hA hval
  obtain ⟨v0, vs0, d0, ds0, p0, q0, hargs, rfl, rfl, h0, r0⟩ := trodAll_cons hA
  obtain ⟨rfl, rfl, rfl⟩ := trodAll_nil r0
  obtain rfl : args = #[v0] := by cases args; simp_all
  obtain ⟨rfl, rfl⟩ := trodVars_none hV
  obtain ⟨ol, rfl, oll, of⟩ := open_agg Try.underlying24 (by kernel_rfl) (by kernel_rfl) (hval 0 24 v0 rfl rfl) h0
  obtain ⟨u0, u1, u2, u3, u4, u5, u6, u7, u8, rfl⟩ := list_len9 ol oll
  obtain ⟨ser, rfl, wser⟩ := field_int Try.underlying3 (of 0 _ _ rfl rfl)
  obtain ⟨cnt, rfl, wcnt⟩ := field_int Try.underlying3 (of 1 _ _ rfl rfl)
  obtain ⟨prd, rfl, wprd⟩ := field_int Try.underlying3 (of 2 _ _ rfl rfl)
  obtain ⟨fst, rfl, wfst⟩ := field_int Try.underlying3 (of 3 _ _ rfl rfl)
  obtain ⟨lft, rfl, wlft⟩ := field_int Try.underlying3 (of 4 _ _ rfl rfl)
  obtain ⟨tdy, rfl, wtdy⟩ := field_int Try.underlying3 (of 5 _ _ rfl rfl)
  obtain ⟨lif, rfl, wlif⟩ := field_int Try.underlying3 (of 6 _ _ rfl rfl)
  obtain ⟨at_, rfl, wat_⟩ := field_int Try.underlying3 (of 7 _ _ rfl rfl)
  obtain ⟨tg, rfl, wtg⟩ := field_int Try.underlying22 (of 8 _ _ rfl rfl)
  have ht := bounds_u64 wtg
  obtain ⟨T, rfl⟩ := Int.eq_ofNat_of_zero_le ht.1
  have hT : T < 18446744073709551616 := by omega
  refine (mediaEncodes_any W ser cnt prd fst lft tdy lif at_ T hT).mono fun e W' ⟨he, hb⟩ => ?_
  subst he
  exact ⟨_, rfl, law_post laidOut_mediaEncodes (by kernel_rfl) rfl rfl Try.underlying4 hW' rfl hb⟩

theorem mediaEncodes_holds : Rows.MediaEncodesSaid :=
  OpenClaim.holds_of_wide 6 Try.f6 rfl rfl rfl rfl rfl rfl rfl ⟨rfl, rfl, rfl, rfl, rfl⟩ rfl rfl rfl rfl rfl (by kernel_rfl) Try.func6 (by kernel_rfl)
    (of_decide_eq_true (by kernel_rfl)) (by unfold Func.isWrapper; rw [if_neg (by decide +kernel)]; exact ⟨rfl, rfl⟩)
    (fun os started H enc _ => mediaEncodes_lifted os started H enc)
#print axioms mediaEncodes_holds
end Go.Proofs.Ythlhphifibldnaa
