/-
  MediaRight answers true for every input. Its conditions: none.
-/
import Derived.Test.YthlhphifibldnaaRowS
import Derived.Test.YthlhphifibldnaaMedL
namespace Go.Proofs.Ythlhphifibldnaa
open Go.ChangeShapes Go.WideShapes Go.ChangeAt Go.RowKit

set_option maxRecDepth 100000 in
set_option maxHeartbeats 4000000 in
theorem mediaRight_any (w : World) (ser cnt prd fst lft tdy lif at_ : Int) (T : Nat) (hT : T < 18446744073709551616) :
    Calls Try.prog 3 #[.agg #[.int .i64 ser, .int .i64 cnt, .int .i64 prd, .int .i64 fst, .int .i64 lft, .int .i64 tdy, .int .i64 lif, .int .i64 at_, .int .u64 (T : Int)]] w fun e w' => e = .returned (.bool true) ∧ Below w.heap.size w w' := by
  go_enter Try.func3, Try.ntmps3
  go_wp2_with fail
  have HBw0 := (Blk.new w 24 #[.int .i64 ser, .int .i64 cnt, .int .i64 prd, .int .i64 fst, .int .i64 lft, .int .i64 tdy, .int .i64 lif, .int .i64 at_, .int .u64 (T : Int)])
  have HLw0 := (below_new w (.cells #[.int .i64 ser, .int .i64 cnt, .int .i64 prd, .int .i64 fst, .int .i64 lft, .int .i64 tdy, .int .i64 lif, .int .i64 at_, .int .u64 (T : Int)] 24))
  have hsw0 : (w.alloc (.cells #[.int .i64 ser, .int .i64 cnt, .int .i64 prd, .int .i64 fst, .int .i64 lft, .int .i64 tdy, .int .i64 lif, .int .i64 at_, .int .u64 (T : Int)] 24)).heap.size = w.heap.size + 1 := by simp
  generalize w.alloc (.cells #[.int .i64 ser, .int .i64 cnt, .int .i64 prd, .int .i64 fst, .int .i64 lft, .int .i64 tdy, .int .i64 lif, .int .i64 at_, .int .u64 (T : Int)] 24) = w0 at HBw0 HLw0 hsw0 ⊢
  replace HBw0 := Lib.hid HBw0
  replace HLw0 := Lib.hid HLw0
  have hlw0 : w.heap.size < w0.heap.size := by omega
  replace hsw0 := Lib.hid hsw0
  refine (alive_any _).mono ?_
  rintro e w1 ⟨rfl, hb1⟩
  have HB1 := Lib.hid (HLw0.out.trans (hb1.mono HLw0.out.size))
  have HX1 := Lib.hid (HBw0.out.below hb1 hlw0)
  have hl1 := Nat.lt_of_lt_of_le hlw0 hb1.size
  clear hb1
  go_wp2_with fail
  refine wp_region_held_drew (S := fun W => Blk W w.heap.size 24 #[.int .i64 ser, .int .i64 cnt, .int .i64 prd, .int .i64 fst, .int .i64 lft, .int .i64 tdy, .int .i64 lif, .int .i64 at_, .int .u64 (T : Int)]) (by kernel_rfl) (HX1.out.drew) (fun hHeld => ?_)
  refine held_load 0 (some 5) 24 (.tmp 1) (by rfl) (by kernel_rfl) (by kernel_rfl) (by kernel_rfl) (w.heap.size) 24 #[.int .i64 ser, .int .i64 cnt, .int .i64 prd, .int .i64 fst, .int .i64 lft, .int .i64 tdy, .int .i64 lif, .int .i64 at_, .int .u64 (T : Int)] (fun _ _ _ h => h) (by rfl) (fun _ h => h) _ Try.underlying24 rfl (by kernel_rfl) (by assumption) ?_
  try simp only [Act.put, List.setIfInBounds_toArray, List.set_cons_zero, List.set_cons_succ]
  refine held_load 2 (some 7) 24 (.tmp 1) (by rfl) (by kernel_rfl) (by kernel_rfl) (by kernel_rfl) (w.heap.size) 24 #[.int .i64 ser, .int .i64 cnt, .int .i64 prd, .int .i64 fst, .int .i64 lft, .int .i64 tdy, .int .i64 lif, .int .i64 at_, .int .u64 (T : Int)] (fun _ _ _ h => h) (by rfl) (fun _ h => h) _ Try.underlying24 rfl (by kernel_rfl) (by assumption) ?_
  try simp only [Act.put, List.setIfInBounds_toArray, List.set_cons_zero, List.set_cons_succ]
  refine held_call 1 (some 6) 11 [(.tmp 5)] #[24] #[.agg #[.int .i64 ser, .int .i64 cnt, .int .i64 prd, .int .i64 fst, .int .i64 lft, .int .i64 tdy, .int .i64 lif, .int .i64 at_, .int .u64 (T : Int)]] (by rfl) (by rfl) (by kernel_rfl) Try.func11 (by rfl) (by rfl) ?_
  refine (mright_any (⟨ser, cnt, prd, fst, lft, tdy, lif, at_, (T : Int)⟩ : Med) _).mono ?_
  rintro e w2 ⟨r, rfl, hr, hb2⟩
  have HB2 := Lib.hid ((below_drewN HB1.out 1).trans (hb2.mono HB1.out.size))
  have HX2 := Lib.hid (HX1.out.drew.below hb2 hl1)
  have hl2 := Nat.lt_of_lt_of_le hl1 hb2.size
  have hH2 : (fun W => Blk W w.heap.size 24 #[.int .i64 ser, .int .i64 cnt, .int .i64 prd, .int .i64 fst, .int .i64 lft, .int .i64 tdy, .int .i64 lif, .int .i64 at_, .int .u64 (T : Int)]) w2 := HX2.out
  clear hb2
  refine ⟨_, rfl, hH2, ?_⟩
  try simp only [Act.put, List.setIfInBounds_toArray, List.set_cons_zero, List.set_cons_succ]
  refine held_call 3 (some 8) 12 [(.tmp 7)] #[24] #[.agg #[.int .i64 ser, .int .i64 cnt, .int .i64 prd, .int .i64 fst, .int .i64 lft, .int .i64 tdy, .int .i64 lif, .int .i64 at_, .int .u64 (T : Int)]] (by rfl) (by rfl) (by kernel_rfl) Try.func12 (by rfl) (by rfl) ?_
  refine (rright_any (⟨ser, cnt, prd, fst, lft, tdy, lif, at_, (T : Int)⟩ : Med) _).mono ?_
  rintro e w3 ⟨r', rfl, hr', hb3⟩
  obtain rfl := hr.unique hr'
  have HB3 := Lib.hid (HB2.out.trans (hb3.mono HB2.out.size))
  have HX3 := Lib.hid (HX2.out.below hb3 hl2)
  have hH3 : (fun W => Blk W w.heap.size 24 #[.int .i64 ser, .int .i64 cnt, .int .i64 prd, .int .i64 fst, .int .i64 lft, .int .i64 tdy, .int .i64 lif, .int .i64 at_, .int .u64 (T : Int)]) w3 := HX3.out
  clear hb3 hr hr'
  refine ⟨_, rfl, hH3, ?_⟩
  try simp only [Act.put, List.setIfInBounds_toArray, List.set_cons_zero, List.set_cons_succ]
  refine held_run 4 (some 9) (.binOp .eql 26 (.tmp 6) (.tmp 8) 26) ?v3_4 (by rfl) (by kernel_rfl) (by kernel_rfl) (by kernel_rfl) (fun _ _ _ h => h) (fun o ho w hS => ?y3_4) (by assumption) ?r3_4
  case y3_4 => (try dsimp only at hS); unfold execOp; simp only [ho]; go_simp; try with_reducible rfl
  try simp only [Act.put, List.setIfInBounds_toArray, List.set_cons_zero, List.set_cons_succ]
  refine held_run 5 (some 2) (.assign (.tmp 9)) ?v3_5 (by rfl) (by kernel_rfl) (by kernel_rfl) (by kernel_rfl) (fun _ _ _ h => h) (fun o ho w hS => ?y3_5) (by assumption) ?r3_5
  case y3_5 => (try dsimp only at hS); unfold execOp; simp only [ho]; go_simp; try with_reducible rfl
  try simp only [Act.put, List.setIfInBounds_toArray, List.set_cons_zero, List.set_cons_succ]
  refine wpAnyH_done (by kernel_rfl) ?_ _
  go_wp2_with fail
  go_ret
  exact ⟨rfl, HB3.out⟩


theorem own_mediaRight : ownKnob Try.prog.godebug = none := by kernel_rfl
theorem laidOut_mediaRight : laidOutB Try.prog = true := by kernel_rfl
set_option maxRecDepth 100000 in
theorem mediaRight_lifted (os : Os) (started : os.Started) (H : Type) (enc : TypeId × Value → H) :
    ReturnsInHanded {} Try.checked os 3 .any (Rows.mediaRightSpec.pre6 enc Try.prog Try.f3 Rows.mediaRightRow.domain false) (Rows.mediaRightSpec.post enc Try.prog Try.f3 false true false false) := by
  refine returnsInHanded_of_change (C := Try.checked) own_mediaRight started (by kernel_rfl) Try.func3
    (ChangeSpec.witness6 (enc := enc) (C := Try.checked) false ⟨#[], #[.agg #[.int .i64 0, .int .i64 0, .int .i64 0, .int .i64 0, .int .i64 0, .int .i64 0, .int .i64 0, .int .i64 0, .int .u64 0]], []⟩ 8 (by kernel_rfl) (by kernel_rfl) (by kernel_rfl) (by kernel_rfl)) ?_
  intro W base args ds gs before hval0 hW hcnd _
  have hval : ∀ (j : Nat) t v, Try.f3.params[j]? = some t → args[j]? = some v → Value.okWide Try.prog W .any base t v := hval0
  have hW' := hW
  obtain ⟨p, q, hA0, hV, rfl, hfz, hnd⟩ := hW
  have hA : DataW.TrodAll enc Try.prog W 0 (fun _ => true) true Try.f3.params.toList args.toList ds p := hA0
  rw [Try.params3] at hA hval
  obtain ⟨v0, vs0, d0, ds0, p0, q0, hargs, rfl, rfl, h0, r0⟩ := trodAll_cons hA
  obtain ⟨rfl, rfl, rfl⟩ := trodAll_nil r0
  obtain rfl : args = #[v0] := by cases args; simp_all
  obtain ⟨rfl, rfl⟩ := trodVars_none hV
  obtain ⟨ol, rfl, oll, of⟩ := open_agg Try.underlying24 (by kernel_rfl) (by kernel_rfl) (hval 0 24 v0 rfl rfl) h0
  obtain ⟨u0, u1, u2, u3, u4, u5, u6, u7, u8, rfl⟩ := list_len9 ol oll
  obtain ⟨ser, rfl, wser⟩ := field_int Try.underlying3 (of 0 _ _ rfl rfl)
  obtain ⟨cnt, rfl, wcnt⟩ := field_int Try.underlying3 (of 1 _ _ rfl rfl)
  obtain ⟨prd, rfl, wprd⟩ := field_int Try.underlying3 (of 2 _ _ rfl rfl)
  obtain ⟨fst, rfl, wfst⟩ := field_int Try.underlying3 (of 3 _ _ rfl rfl)
  obtain ⟨lft, rfl, wlft⟩ := field_int Try.underlying3 (of 4 _ _ rfl rfl)
  obtain ⟨tdy, rfl, wtdy⟩ := field_int Try.underlying3 (of 5 _ _ rfl rfl)
  obtain ⟨lif, rfl, wlif⟩ := field_int Try.underlying3 (of 6 _ _ rfl rfl)
  obtain ⟨at_, rfl, wat_⟩ := field_int Try.underlying3 (of 7 _ _ rfl rfl)
  obtain ⟨tg, rfl, wtg⟩ := field_int Try.underlying22 (of 8 _ _ rfl rfl)
  have ht := bounds_u64 wtg
  obtain ⟨T, rfl⟩ := Int.eq_ofNat_of_zero_le ht.1
  have hT : T < 18446744073709551616 := by omega
  refine (mediaRight_any W ser cnt prd fst lft tdy lif at_ T hT).mono fun e W' ⟨he, hb⟩ => ?_
  subst he
  exact ⟨_, rfl, law_post laidOut_mediaRight (by kernel_rfl) rfl rfl Try.underlying4 hW' rfl hb⟩

theorem mediaRight_holds : Rows.MediaRightSaid :=
  OpenClaim.holds_of_wide 3 Try.f3 rfl rfl rfl rfl rfl rfl rfl ⟨rfl, rfl, rfl, rfl, rfl⟩ rfl rfl rfl rfl rfl (by kernel_rfl) Try.func3 (by kernel_rfl)
    (of_decide_eq_true (by kernel_rfl)) (by unfold Func.isWrapper; rw [if_neg (by decide +kernel)]; exact ⟨rfl, rfl⟩)
    (fun os started H enc _ => mediaRight_lifted os started H enc)
#print axioms mediaRight_holds
end Go.Proofs.Ythlhphifibldnaa
