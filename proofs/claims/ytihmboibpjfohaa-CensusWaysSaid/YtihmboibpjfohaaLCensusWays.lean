/-
  CensusWays answers true for every input. Its conditions: none. (One heavy walk.)
-/
import Derived.Test.YtihmboibpjfohaaRows
import Derived.Test.YtihmboibpjfohaaWayA
namespace Go.Proofs.Ytihmboibpjfohaa
open Go.ChangeShapes Go.WideShapes Go.ChangeAt Go.RowKit

set_option maxRecDepth 100000 in
set_option maxHeartbeats 40000000 in
theorem censusWays_any (w : World) (vn vl vr vb : Value) (nd : List Nd) (lf : List Lf) (rs : List Rn) (bs : List Int) (hnd : StrV Nd.cells 2 w w.heap.size vn nd) (hlf : StrV Lf.cells 8 w w.heap.size vl lf) (hrs : StrV Rn.cells 7 w w.heap.size vr rs) (hbs : RowV w w.heap.size vb bs) (uuA : Option Addr) (uun uuc : Nat) (uu : List Int) (uu1 : uun ≤ uuc) (uu2 : uuc ≤ maxLen) (uur : Reads w w.heap.size 1 uuA uun (uu.map (Value.int .i64))) (uuw : ∀ z ∈ uu, (Lit.int .i64 z).wf = true) (mmA : Option Addr) (mmn mmc : Nat) (mm : List Int) (mm1 : mmn ≤ mmc) (mm2 : mmc ≤ maxLen) (mmr : Reads w w.heap.size 1 mmA mmn (mm.map (Value.int .i64))) (mmw : ∀ z ∈ mm, (Lit.int .i64 z).wf = true) (node : Int) :
    Calls Try.prog 8 #[.agg #[vn, vl, vr, vb], .slice uuA uun uuc, .slice mmA mmn mmc, .int .i64 node] w fun e w' => e = .returned (.bool true) ∧ Below w.heap.size w w' := by
  obtain ⟨Ab, nb, cb, rfl, HLbs, hd1, hd2, hb'⟩ := hbs.nam
  obtain ⟨A, n, c, rfl, HL, hc1, hc2, hr'⟩ := hrs.nam
  simp only [maxLen] at hd2 hc2
  have HM := Lib.hid hnd
  have HL' := Lib.hid hlf
  have HR := Lib.hid hrs
  have HS := Lib.hid hbs
  have HU := Lib.hid uur
  have HQ := Lib.hid mmr
  have hmx := Int.ofNat_le.2 (show uun ≤ maxLen by omega)
  have hmx2 := Int.ofNat_le.2 (show mmn ≤ maxLen by omega)
  simp only [maxLen] at uu2 mm2 hmx hmx2
  clear hnd hlf hrs hbs uur uuw mmr mmw hb' hr'
  go_enter Try.func8, Try.ntmps8
  go_wp2_with fail
  have HBwb := (Blk.new w 44 #[vn, vl, .slice A n c, .slice Ab nb cb])
  have HLwb := (below_new w (.cells #[vn, vl, .slice A n c, .slice Ab nb cb] 44))
  have hswb : (w.alloc (.cells #[vn, vl, .slice A n c, .slice Ab nb cb] 44)).heap.size = w.heap.size + 1 := by simp
  generalize w.alloc (.cells #[vn, vl, .slice A n c, .slice Ab nb cb] 44) = wb at HBwb HLwb hswb ⊢
  replace HBwb := Lib.hid HBwb
  replace HLwb := Lib.hid HLwb
  have hlwb : w.heap.size < wb.heap.size := by omega
  replace hswb := Lib.hid hswb
  have HWb := Lib.hid (HLwb.out)
  have hl0 : w.heap.size ≤ wb.heap.size := HWb.out.size
  have HBb : Hid (Below wb.heap.size wb wb) := hide (Below.refl _ _)
  have hszb : wb.heap.size ≤ wb.heap.size := Nat.le_refl _
  have HX0b : Hid (Blk wb w.heap.size 44 #[vn, vl, .slice A n c, .slice Ab nb cb]) := hide HBwb.out
  have hxx0 : w.heap.size < wb.heap.size := HX0b.out.lt
  clear HBwb HLwb hswb hlwb
  have HMb := Lib.hid (HM.out.now HWb.out)
  have HLb := Lib.hid (HL'.out.now HWb.out)
  have HRb := Lib.hid (HR.out.now HWb.out)
  have HSb := Lib.hid (HS.out.now HWb.out)
  have HUb := Lib.hid (HU.out.now HWb.out)
  have HQb := Lib.hid (HQ.out.now HWb.out)
  with_reducible refine (alive_any _).mono ?_
  rintro e w1 ⟨rfl, hb1⟩
  have HB1 := Lib.hid (HBb.out.trans (hb1.mono hszb))
  have HW1 := Lib.hid (HWb.out.trans (hb1.mono HWb.out.size))
  have hsz1 : wb.heap.size ≤ w1.heap.size := Nat.le_trans hszb hb1.size
  have HX01 := Lib.hid (HX0b.out.below hb1 (Nat.lt_of_lt_of_le hxx0 hszb))
  have HM1 := Lib.hid (HMb.out.now hb1)
  have HL1 := Lib.hid (HLb.out.now hb1)
  have HR1 := Lib.hid (HRb.out.now hb1)
  have HS1 := Lib.hid (HSb.out.now hb1)
  have HU1 := Lib.hid (HUb.out.now hb1)
  have HQ1 := Lib.hid (HQb.out.now hb1)
  clear hb1
  go_wp2_with
    (first
     | (refine wpList_load_g 44 (.tmp 4) rfl rfl w.heap.size rfl _ _ HX01.out _ Try.underlying44 rfl (by kernel_rfl) ?_))
  with_reducible refine (small_any vn vl _ _ nd lf rs bs uuA uun uuc _ HM1.out HL1.out HR1.out HS1.out (by simp only [maxLen]; omega)).mono ?_
  rintro e w2 ⟨b2, rfl, hp2, hb2⟩
  have HP := Lib.hid hp2
  clear hp2
  have HB2 := Lib.hid (HB1.out.trans (hb2.mono hsz1))
  have HW2 := Lib.hid (HW1.out.trans (hb2.mono HW1.out.size))
  have hsz2 : wb.heap.size ≤ w2.heap.size := Nat.le_trans hsz1 hb2.size
  have HX02 := Lib.hid (HX01.out.below hb2 (Nat.lt_of_lt_of_le hxx0 hsz1))
  have HM2 := Lib.hid (HM1.out.now hb2)
  have HL2 := Lib.hid (HL1.out.now hb2)
  have HR2 := Lib.hid (HR1.out.now hb2)
  have HS2 := Lib.hid (HS1.out.now hb2)
  have HU2 := Lib.hid (HU1.out.now hb2)
  have HQ2 := Lib.hid (HQ1.out.now hb2)
  clear hb2
  cases b2 with
  | false =>
    go_wp2_with fail
    try go_ret
    exact ⟨rfl, HW2.out⟩
  | true =>
    have hu100 := (HP.out rfl).1
    have HMk := Lib.hid (HP.out rfl).2
    have HK : Hid (WaOK nd rs bs) := hide ⟨HMk.out.eg, fun x hx => ⟨(HMk.out.runs x hx).2.1, (HMk.out.runs x hx).2.2.1⟩, HMk.out.bases⟩
    have hn64 : n ≤ 64 := by rw [← HL.out]; exact HMk.out.l3
    have hb64 : nb ≤ 64 := by rw [← HLbs.out]; exact HMk.out.l4
    clear HP HMk
    by_cases hmm : mmn ≤ 100
    rotate_left
    · have d1 : decide ((mmn : Int) > 100) = true := decide_eq_true (by omega)
      go_wp2_with fail
      try go_ret
      exact ⟨rfl, HW2.out⟩
    have d1 : decide ((mmn : Int) > 100) = false := decide_eq_false (by omega)
    have HE : Hid (∀ (Ar : Option Addr) (nr cr : Nat) (l : List Int) (W : World), StrV Nd.cells 2 W W.heap.size vn nd → StrV Rn.cells 7 W W.heap.size (.slice A n c) rs → RowV W W.heap.size (.slice Ab nb cb) bs → Ints W W.heap.size Ar nr l → nr ≤ 1000 → Calls Try.prog 22 #[.agg #[vn, vl, .slice A n c, .slice Ab nb cb], .slice Ar nr cr, .int .i64 node] W (EgR nd rs bs l node W)) := fun Ar nr cr l W h1 h2 h3 h4 h5 => egress_any vn vl _ _ Ar nr cr nd rs bs l node W h1 h2 h3 h4 (by simp only [maxLen]; omega) HK.out.eg
    go_wp2_with
      (first
       | (refine wpList_load_g 44 (.tmp 4) rfl rfl w.heap.size rfl _ _ HX02.out _ Try.underlying44 rfl (by kernel_rfl) ?_))
    with_reducible refine (HE.out uuA uun uuc uu _ HM2.out HR2.out HS2.out HU2.out (by omega)).mono ?_
    rintro e w3 ⟨M, hM, rfl, hb3⟩
    have HMv := Lib.hid hM
    have hMb := hM.bound HK.out.eg
    clear hM
    have HB3 := Lib.hid (HB2.out.trans (hb3.mono hsz2))
    have HW3 := Lib.hid (HW2.out.trans (hb3.mono HW2.out.size))
    have hsz3 : wb.heap.size ≤ w3.heap.size := Nat.le_trans hsz2 hb3.size
    have HX03 := Lib.hid (HX02.out.below hb3 (Nat.lt_of_lt_of_le hxx0 hsz2))
    have HM3 := Lib.hid (HM2.out.now hb3)
    have HL3 := Lib.hid (HL2.out.now hb3)
    have HR3 := Lib.hid (HR2.out.now hb3)
    have HS3 := Lib.hid (HS2.out.now hb3)
    have HU3 := Lib.hid (HU2.out.now hb3)
    have HQ3 := Lib.hid (HQ2.out.now hb3)
    clear hb3 d1
    go_wp2_with
      (first
       | (refine wpList_load_g 44 (.tmp 4) rfl rfl w.heap.size rfl _ _ HX03.out _ Try.underlying44 rfl (by kernel_rfl) ?_))
    with_reducible refine (home_any vn vl _ _ uuA uun uuc rs bs uu _ HR3.out HS3.out HU3.out (by omega) (by rw [HL.out]; exact hn64) (by rw [HLbs.out]; exact hb64)).mono ?_
    rintro e w4 ⟨v4, out, rfl, ho4, hb4, hl4, hx4⟩
    obtain ⟨A4, n4, c4, rfl, HL4', h41, h42, hr4⟩ := ho4.nam
    have hn4 : n4 ≤ 200 := by rw [← HL4'.out]; exact hl4
    have HX4' := Lib.hid hx4
    have HI4 := Lib.hid hr4
    clear ho4 hl4 hx4 hr4
    have HB4 := Lib.hid (HB3.out.trans (hb4.mono hsz3))
    have HW4 := Lib.hid (HW3.out.trans (hb4.mono HW3.out.size))
    have hsz4 : wb.heap.size ≤ w4.heap.size := Nat.le_trans hsz3 hb4.size
    have HX04 := Lib.hid (HX03.out.below hb4 (Nat.lt_of_lt_of_le hxx0 hsz3))
    have HM4 := Lib.hid (HM3.out.now hb4)
    have HL4 := Lib.hid (HL3.out.now hb4)
    have HR4 := Lib.hid (HR3.out.now hb4)
    have HS4 := Lib.hid (HS3.out.now hb4)
    have HU4 := Lib.hid (HU3.out.now hb4)
    have HQ4 := Lib.hid (HQ3.out.now hb4)
    clear hb4
    obtain ⟨hm, hhm⟩ : ∃ b, out.contains node = b := ⟨_, rfl⟩
    have HHm : Hid (hm = decide (M > 0)) := hide (by rw [Bool.eq_iff_iff, decide_eq_true_iff, ← hhm, List.contains_iff_mem, HX4'.out]; exact (eg_home HK.out HMv.out).symm)
    have HHc := Lib.hid hhm
    clear hhm
    go_wp2_with fail
    with_reducible refine (lhas_any A4 n4 c4 _ out node hm w4 HI4.out (by simp only [maxLen]; omega) HHc.out).mono ?_
    rintro e w' ⟨rfl, rfl⟩
    go_upto_region 7 with (fail)
    have HSS : Hid (∀ W, Below w4.heap.size w4 W → (fun W => Blk W w.heap.size 44 #[vn, vl, .slice A n c, .slice Ab nb cb]) W) := fun W hb => HX04.out.below hb (Nat.lt_of_lt_of_le hxx0 hsz4)
    have HBd : Hid (Below w4.heap.size w4 w4.drew) := hide (Below.refl _ _).drew
    have h0 := HSS.out _ HBd.out
    go_cut [48] (fun s wx => s = .bool false ∧ Below w4.heap.size w4 wx)
    case first =>
      cases hm with
      | true =>
        have d2 : decide (M > 0) = true := HHm.out.symm
        refine wp_region_held_drew (S := fun W => Blk W w.heap.size 44 #[vn, vl, .slice A n c, .slice Ab nb cb]) (by kernel_rfl) (h0) (fun hHeld => ?_)
        refine held_run 0 (some 33) (.move (.tmp 10)) ?v7_1_2 (by rfl) (by kernel_rfl) (by kernel_rfl) (by kernel_rfl) (fun _ _ _ h => h) (fun o ho w hS => ?y7_1_2) (by assumption) ?r7_1_2
        case y7_1_2 => (try dsimp only at hS); unfold execOp; simp only [ho]; go_simp; try with_reducible rfl
        try simp only [Act.put, List.setIfInBounds_toArray, List.set_cons_zero, List.set_cons_succ]
        refine held_run 1 (some 34) (.move (.tmp 9)) ?v7_1_3 (by rfl) (by kernel_rfl) (by kernel_rfl) (by kernel_rfl) (fun _ _ _ h => h) (fun o ho w hS => ?y7_1_3) (by assumption) ?r7_1_3
        case y7_1_3 => (try dsimp only at hS); unfold execOp; simp only [ho]; go_simp; try with_reducible rfl
        try simp only [Act.put, List.setIfInBounds_toArray, List.set_cons_zero, List.set_cons_succ]
        refine held_run 2 (some 35) (.binOp .gtr 3 (.tmp 34) (.const (.int .i64 0)) 3) ?v7_1_4 (by rfl) (by kernel_rfl) (by kernel_rfl) (by kernel_rfl) (fun _ _ _ h => h) (fun o ho w hS => ?y7_1_4) (by assumption) ?r7_1_4
        case y7_1_4 => (try dsimp only at hS); unfold execOp; simp only [ho]; go_simp; try with_reducible rfl
        try simp only [Act.put, List.setIfInBounds_toArray, List.set_cons_zero, List.set_cons_succ]
        refine held_run 3 (some 36) (.binOp .neq 4 (.tmp 33) (.tmp 35) 4) ?v7_1_5 (by rfl) (by kernel_rfl) (by kernel_rfl) (by kernel_rfl) (fun _ _ _ h => h) (fun o ho w hS => ?y7_1_5) (by assumption) ?r7_1_5
        case y7_1_5 => (try dsimp only at hS); unfold execOp; simp only [ho]; go_simp; try with_reducible rfl
        try simp only [Act.put, List.setIfInBounds_toArray, List.set_cons_zero, List.set_cons_succ]
        refine held_run 4 (some 37) (.move (.tmp 36)) ?v7_1_6 (by rfl) (by kernel_rfl) (by kernel_rfl) (by kernel_rfl) (fun _ _ _ h => h) (fun o ho w hS => ?y7_1_6) (by assumption) ?r7_1_6
        case y7_1_6 => (try dsimp only at hS); unfold execOp; simp only [ho]; go_simp; try with_reducible rfl
        try simp only [Act.put, List.setIfInBounds_toArray, List.set_cons_zero, List.set_cons_succ]
        refine held_load 5 (some 38) 44 (.tmp 4) (by rfl) (by kernel_rfl) (by kernel_rfl) (by kernel_rfl) (w.heap.size) 44 #[vn, vl, .slice A n c, .slice Ab nb cb] (fun _ _ _ h => h) (by rfl) (fun _ h => h) _ Try.underlying44 rfl (by kernel_rfl) (by assumption) ?_
        try simp only [Act.put, List.setIfInBounds_toArray, List.set_cons_zero, List.set_cons_succ]
        refine held_run 7 (some 40) (.move (.tmp 1)) ?v7_1_8 (by rfl) (by kernel_rfl) (by kernel_rfl) (by kernel_rfl) (fun _ _ _ h => h) (fun o ho w hS => ?y7_1_8) (by assumption) ?r7_1_8
        case y7_1_8 => (try dsimp only at hS); unfold execOp; simp only [ho]; go_simp; try with_reducible rfl
        try simp only [Act.put, List.setIfInBounds_toArray, List.set_cons_zero, List.set_cons_succ]
        refine held_run 9 (some 42) (.move (.tmp 2)) ?v7_1_9 (by rfl) (by kernel_rfl) (by kernel_rfl) (by kernel_rfl) (fun _ _ _ h => h) (fun o ho w hS => ?y7_1_9) (by assumption) ?r7_1_9
        case y7_1_9 => (try dsimp only at hS); unfold execOp; simp only [ho]; go_simp; try with_reducible rfl
        try simp only [Act.put, List.setIfInBounds_toArray, List.set_cons_zero, List.set_cons_succ]
        refine held_run 11 (some 44) (.move (.tmp 3)) ?v7_1_10 (by rfl) (by kernel_rfl) (by kernel_rfl) (by kernel_rfl) (fun _ _ _ h => h) (fun o ho w hS => ?y7_1_10) (by assumption) ?r7_1_10
        case y7_1_10 => (try dsimp only at hS); unfold execOp; simp only [ho]; go_simp; try with_reducible rfl
        try simp only [Act.put, List.setIfInBounds_toArray, List.set_cons_zero, List.set_cons_succ]
        refine held_run 13 (some 46) (.move (.tmp 9)) ?v7_1_11 (by rfl) (by kernel_rfl) (by kernel_rfl) (by kernel_rfl) (fun _ _ _ h => h) (fun o ho w hS => ?y7_1_11) (by assumption) ?r7_1_11
        case y7_1_11 => (try dsimp only at hS); unfold execOp; simp only [ho]; go_simp; try with_reducible rfl
        try simp only [Act.put, List.setIfInBounds_toArray, List.set_cons_zero, List.set_cons_succ]
        refine held_one 6 (by kernel_rfl) ?_
        refine op_lit 6 (some 39) 42 3 0 #[] #[] (by rfl) (by have h := run_lit0 (P := Try.prog) w4.drew 42 3 Try.underlying42 (by kernel_rfl); simpa using h) ?_
        intro wa _ hb he
        have HBa := Lib.hid (HBd.out.trans (hb.mono HBd.out.size))
        have HOa : Hid (wa.ownsRow w4.heap.size 3 1 (.slice (some ⟨w4.drew.heap.size, 0, none⟩) 0 0) 0 []) := by show World.ownsRow _ _ _ _ _ _ _; rw [he]; exact World.ownsRow_lit w4.drew #[] 0 HBd.out.size (by simp [maxLen]) rfl
        clear hb he h0
        refine ⟨HSS.out _ HBa.out, ?_⟩
        try simp only [Act.put, List.setIfInBounds_toArray, List.set_cons_zero, List.set_cons_succ]
        refine held_one 8 (by kernel_rfl) ?_
        refine op_app ei_ints 8 (some 41) (.tmp 39) (.tmp 40) (by rfl) w4.heap.size _ 0 [] rfl (HOa.out) wa.heap.size uuA uun uuc (uu.map (Value.int .i64)) rfl (HU4.out.now HBa.out) (oneCell_ints uu) (by simp only [maxLen]; omega) (by omega) (HBa.out.size) ?_
        intro vy wy hown _ hb _
        simp only [Nat.zero_add, List.nil_append] at hown
        have HBy := Lib.hid (HBa.out.trans hb)
        have HOy := Lib.hid hown
        clear hown hb
        refine ⟨HSS.out _ HBy.out, ?_⟩
        try simp only [Act.put, List.setIfInBounds_toArray, List.set_cons_zero, List.set_cons_succ]
        refine held_one 10 (by kernel_rfl) ?_
        refine op_app ei_ints 10 (some 43) (.tmp 41) (.tmp 42) (by rfl) w4.heap.size _ uun (uu.map (Value.int .i64)) rfl (HOy.out) wy.heap.size mmA mmn mmc (mm.map (Value.int .i64)) rfl (HQ4.out.now HBy.out) (oneCell_ints mm) (by simp only [maxLen]; omega) (by omega) (HBy.out.size) ?_
        intro vz wz hown _ hb _
        obtain ⟨Az, cz, rfl, _, _, hrz⟩ := own_open hown
        have HBz := Lib.hid (HBy.out.trans hb)
        have HRz : Hid (Ints wz wz.heap.size Az (uun + mmn) (uu ++ mm)) := hide (by rw [← List.map_append] at hrz; exact hrz)
        clear hown hb hrz
        have h0 := HSS.out _ HBz.out
        refine ⟨h0, ?_⟩
        try simp only [Act.put, List.setIfInBounds_toArray, List.set_cons_zero, List.set_cons_succ]
        refine held_call 12 (some 45) 22 [(.tmp 38), (.tmp 43), (.tmp 44)] #[44, 42, 3] #[.agg #[vn, vl, .slice A n c, .slice Ab nb cb], .slice Az (uun + mmn) cz, .int .i64 node] (by rfl) (by rfl) (by kernel_rfl) Try.func22 (by rfl) (by rfl) ?_
        refine (HE.out Az (uun + mmn) cz (uu ++ mm) wz (HM4.out.now HBz.out) (HR4.out.now HBz.out) (HS4.out.now HBz.out) HRz.out (by omega)).mono ?_
        rintro e we ⟨N, hN, rfl, hb⟩
        have HBe := Lib.hid (HBz.out.trans (hb.mono HBz.out.size))
        have d3 : decide (N < M) = false := decide_eq_false (by have := eg_more HK.out HMv.out hN; omega)
        clear hN hb h0
        have h0 := HSS.out _ HBe.out
        refine ⟨_, rfl, h0, ?_⟩
        try simp only [Act.put, List.setIfInBounds_toArray, List.set_cons_zero, List.set_cons_succ]
        refine held_run 14 (some 47) (.binOp .lss 3 (.tmp 45) (.tmp 46) 3) ?v7_1_16 (by rfl) (by kernel_rfl) (by kernel_rfl) (by kernel_rfl) (fun _ _ _ h => h) (fun o ho w hS => ?y7_1_16) (by assumption) ?r7_1_16
        case y7_1_16 => (try dsimp only at hS); unfold execOp; simp only [ho]; go_simp; try with_reducible rfl
        try simp only [Act.put, List.setIfInBounds_toArray, List.set_cons_zero, List.set_cons_succ]
        refine held_run 15 (some 48) (.pick (.tmp 37) (.const (Value.bool true)) (.tmp 47)) ?v7_1_17 (by rfl) (by kernel_rfl) (by kernel_rfl) (by kernel_rfl) (fun _ _ _ h => h) (fun o ho w hS => ?y7_1_17) (by assumption) ?r7_1_17
        case y7_1_17 => (try dsimp only at hS); unfold execOp; simp only [ho]; go_simp; try with_reducible rfl
        try simp only [Act.put, List.setIfInBounds_toArray, List.set_cons_zero, List.set_cons_succ]
        refine wpAnyH_done (by kernel_rfl) ?_ _
        go_wp2_with fail
        go_meet
        exact ⟨rfl, HBe.out⟩
      | false =>
        have d2 : decide (M > 0) = false := HHm.out.symm
        refine wp_region_held_drew (S := fun W => Blk W w.heap.size 44 #[vn, vl, .slice A n c, .slice Ab nb cb]) (by kernel_rfl) (h0) (fun hHeld => ?_)
        refine held_run 0 (some 33) (.move (.tmp 10)) ?v7_18_19 (by rfl) (by kernel_rfl) (by kernel_rfl) (by kernel_rfl) (fun _ _ _ h => h) (fun o ho w hS => ?y7_18_19) (by assumption) ?r7_18_19
        case y7_18_19 => (try dsimp only at hS); unfold execOp; simp only [ho]; go_simp; try with_reducible rfl
        try simp only [Act.put, List.setIfInBounds_toArray, List.set_cons_zero, List.set_cons_succ]
        refine held_run 1 (some 34) (.move (.tmp 9)) ?v7_18_20 (by rfl) (by kernel_rfl) (by kernel_rfl) (by kernel_rfl) (fun _ _ _ h => h) (fun o ho w hS => ?y7_18_20) (by assumption) ?r7_18_20
        case y7_18_20 => (try dsimp only at hS); unfold execOp; simp only [ho]; go_simp; try with_reducible rfl
        try simp only [Act.put, List.setIfInBounds_toArray, List.set_cons_zero, List.set_cons_succ]
        refine held_run 2 (some 35) (.binOp .gtr 3 (.tmp 34) (.const (.int .i64 0)) 3) ?v7_18_21 (by rfl) (by kernel_rfl) (by kernel_rfl) (by kernel_rfl) (fun _ _ _ h => h) (fun o ho w hS => ?y7_18_21) (by assumption) ?r7_18_21
        case y7_18_21 => (try dsimp only at hS); unfold execOp; simp only [ho]; go_simp; try with_reducible rfl
        try simp only [Act.put, List.setIfInBounds_toArray, List.set_cons_zero, List.set_cons_succ]
        refine held_run 3 (some 36) (.binOp .neq 4 (.tmp 33) (.tmp 35) 4) ?v7_18_22 (by rfl) (by kernel_rfl) (by kernel_rfl) (by kernel_rfl) (fun _ _ _ h => h) (fun o ho w hS => ?y7_18_22) (by assumption) ?r7_18_22
        case y7_18_22 => (try dsimp only at hS); unfold execOp; simp only [ho]; go_simp; try with_reducible rfl
        try simp only [Act.put, List.setIfInBounds_toArray, List.set_cons_zero, List.set_cons_succ]
        refine held_run 4 (some 37) (.move (.tmp 36)) ?v7_18_23 (by rfl) (by kernel_rfl) (by kernel_rfl) (by kernel_rfl) (fun _ _ _ h => h) (fun o ho w hS => ?y7_18_23) (by assumption) ?r7_18_23
        case y7_18_23 => (try dsimp only at hS); unfold execOp; simp only [ho]; go_simp; try with_reducible rfl
        try simp only [Act.put, List.setIfInBounds_toArray, List.set_cons_zero, List.set_cons_succ]
        refine held_load 5 (some 38) 44 (.tmp 4) (by rfl) (by kernel_rfl) (by kernel_rfl) (by kernel_rfl) (w.heap.size) 44 #[vn, vl, .slice A n c, .slice Ab nb cb] (fun _ _ _ h => h) (by rfl) (fun _ h => h) _ Try.underlying44 rfl (by kernel_rfl) (by assumption) ?_
        try simp only [Act.put, List.setIfInBounds_toArray, List.set_cons_zero, List.set_cons_succ]
        refine held_run 7 (some 40) (.move (.tmp 1)) ?v7_18_25 (by rfl) (by kernel_rfl) (by kernel_rfl) (by kernel_rfl) (fun _ _ _ h => h) (fun o ho w hS => ?y7_18_25) (by assumption) ?r7_18_25
        case y7_18_25 => (try dsimp only at hS); unfold execOp; simp only [ho]; go_simp; try with_reducible rfl
        try simp only [Act.put, List.setIfInBounds_toArray, List.set_cons_zero, List.set_cons_succ]
        refine held_run 9 (some 42) (.move (.tmp 2)) ?v7_18_26 (by rfl) (by kernel_rfl) (by kernel_rfl) (by kernel_rfl) (fun _ _ _ h => h) (fun o ho w hS => ?y7_18_26) (by assumption) ?r7_18_26
        case y7_18_26 => (try dsimp only at hS); unfold execOp; simp only [ho]; go_simp; try with_reducible rfl
        try simp only [Act.put, List.setIfInBounds_toArray, List.set_cons_zero, List.set_cons_succ]
        refine held_run 11 (some 44) (.move (.tmp 3)) ?v7_18_27 (by rfl) (by kernel_rfl) (by kernel_rfl) (by kernel_rfl) (fun _ _ _ h => h) (fun o ho w hS => ?y7_18_27) (by assumption) ?r7_18_27
        case y7_18_27 => (try dsimp only at hS); unfold execOp; simp only [ho]; go_simp; try with_reducible rfl
        try simp only [Act.put, List.setIfInBounds_toArray, List.set_cons_zero, List.set_cons_succ]
        refine held_run 13 (some 46) (.move (.tmp 9)) ?v7_18_28 (by rfl) (by kernel_rfl) (by kernel_rfl) (by kernel_rfl) (fun _ _ _ h => h) (fun o ho w hS => ?y7_18_28) (by assumption) ?r7_18_28
        case y7_18_28 => (try dsimp only at hS); unfold execOp; simp only [ho]; go_simp; try with_reducible rfl
        try simp only [Act.put, List.setIfInBounds_toArray, List.set_cons_zero, List.set_cons_succ]
        refine held_one 6 (by kernel_rfl) ?_
        refine op_lit 6 (some 39) 42 3 0 #[] #[] (by rfl) (by have h := run_lit0 (P := Try.prog) w4.drew 42 3 Try.underlying42 (by kernel_rfl); simpa using h) ?_
        intro wa _ hb he
        have HBa := Lib.hid (HBd.out.trans (hb.mono HBd.out.size))
        have HOa : Hid (wa.ownsRow w4.heap.size 3 1 (.slice (some ⟨w4.drew.heap.size, 0, none⟩) 0 0) 0 []) := by show World.ownsRow _ _ _ _ _ _ _; rw [he]; exact World.ownsRow_lit w4.drew #[] 0 HBd.out.size (by simp [maxLen]) rfl
        clear hb he h0
        refine ⟨HSS.out _ HBa.out, ?_⟩
        try simp only [Act.put, List.setIfInBounds_toArray, List.set_cons_zero, List.set_cons_succ]
        refine held_one 8 (by kernel_rfl) ?_
        refine op_app ei_ints 8 (some 41) (.tmp 39) (.tmp 40) (by rfl) w4.heap.size _ 0 [] rfl (HOa.out) wa.heap.size uuA uun uuc (uu.map (Value.int .i64)) rfl (HU4.out.now HBa.out) (oneCell_ints uu) (by simp only [maxLen]; omega) (by omega) (HBa.out.size) ?_
        intro vy wy hown _ hb _
        simp only [Nat.zero_add, List.nil_append] at hown
        have HBy := Lib.hid (HBa.out.trans hb)
        have HOy := Lib.hid hown
        clear hown hb
        refine ⟨HSS.out _ HBy.out, ?_⟩
        try simp only [Act.put, List.setIfInBounds_toArray, List.set_cons_zero, List.set_cons_succ]
        refine held_one 10 (by kernel_rfl) ?_
        refine op_app ei_ints 10 (some 43) (.tmp 41) (.tmp 42) (by rfl) w4.heap.size _ uun (uu.map (Value.int .i64)) rfl (HOy.out) wy.heap.size mmA mmn mmc (mm.map (Value.int .i64)) rfl (HQ4.out.now HBy.out) (oneCell_ints mm) (by simp only [maxLen]; omega) (by omega) (HBy.out.size) ?_
        intro vz wz hown _ hb _
        obtain ⟨Az, cz, rfl, _, _, hrz⟩ := own_open hown
        have HBz := Lib.hid (HBy.out.trans hb)
        have HRz : Hid (Ints wz wz.heap.size Az (uun + mmn) (uu ++ mm)) := hide (by rw [← List.map_append] at hrz; exact hrz)
        clear hown hb hrz
        have h0 := HSS.out _ HBz.out
        refine ⟨h0, ?_⟩
        try simp only [Act.put, List.setIfInBounds_toArray, List.set_cons_zero, List.set_cons_succ]
        refine held_call 12 (some 45) 22 [(.tmp 38), (.tmp 43), (.tmp 44)] #[44, 42, 3] #[.agg #[vn, vl, .slice A n c, .slice Ab nb cb], .slice Az (uun + mmn) cz, .int .i64 node] (by rfl) (by rfl) (by kernel_rfl) Try.func22 (by rfl) (by rfl) ?_
        refine (HE.out Az (uun + mmn) cz (uu ++ mm) wz (HM4.out.now HBz.out) (HR4.out.now HBz.out) (HS4.out.now HBz.out) HRz.out (by omega)).mono ?_
        rintro e we ⟨N, hN, rfl, hb⟩
        have HBe := Lib.hid (HBz.out.trans (hb.mono HBz.out.size))
        have d3 : decide (N < M) = false := decide_eq_false (by have := eg_more HK.out HMv.out hN; omega)
        clear hN hb h0
        have h0 := HSS.out _ HBe.out
        refine ⟨_, rfl, h0, ?_⟩
        try simp only [Act.put, List.setIfInBounds_toArray, List.set_cons_zero, List.set_cons_succ]
        refine held_run 14 (some 47) (.binOp .lss 3 (.tmp 45) (.tmp 46) 3) ?v7_18_33 (by rfl) (by kernel_rfl) (by kernel_rfl) (by kernel_rfl) (fun _ _ _ h => h) (fun o ho w hS => ?y7_18_33) (by assumption) ?r7_18_33
        case y7_18_33 => (try dsimp only at hS); unfold execOp; simp only [ho]; go_simp; try with_reducible rfl
        try simp only [Act.put, List.setIfInBounds_toArray, List.set_cons_zero, List.set_cons_succ]
        refine held_run 15 (some 48) (.pick (.tmp 37) (.const (Value.bool true)) (.tmp 47)) ?v7_18_34 (by rfl) (by kernel_rfl) (by kernel_rfl) (by kernel_rfl) (fun _ _ _ h => h) (fun o ho w hS => ?y7_18_34) (by assumption) ?r7_18_34
        case y7_18_34 => (try dsimp only at hS); unfold execOp; simp only [ho]; go_simp; try with_reducible rfl
        try simp only [Act.put, List.setIfInBounds_toArray, List.set_cons_zero, List.set_cons_succ]
        refine wpAnyH_done (by kernel_rfl) ?_ _
        go_wp2_with fail
        go_meet
        exact ⟨rfl, HBe.out⟩
    obtain ⟨rfl, hcut⟩ := hcut
    obtain ⟨w5, rfl⟩ : ∃ wk : World, wk = wc := ⟨_, rfl⟩
    have HB5 := Lib.hid (HB4.out.trans (hcut.mono hsz4))
    have HW5 := Lib.hid (HW4.out.trans (hcut.mono HW4.out.size))
    have hsz5 : wb.heap.size ≤ w5.heap.size := Nat.le_trans hsz4 hcut.size
    have HX05 := Lib.hid (HX04.out.below hcut (Nat.lt_of_lt_of_le hxx0 hsz4))
    have HM5 := Lib.hid (HM4.out.now hcut)
    have HL5 := Lib.hid (HL4.out.now hcut)
    have HR5 := Lib.hid (HR4.out.now hcut)
    have HS5 := Lib.hid (HS4.out.now hcut)
    have HU5 := Lib.hid (HU4.out.now hcut)
    have HQ5 := Lib.hid (HQ4.out.now hcut)
    clear hcut h0 HSS HBd HHm HHc HX4' HI4 HL4' h41 h42 hn4
    have m0 : w5.cell? ⟨w.heap.size, 0, none⟩ = some (vn) := HX05.out.cell 0
    have m1 : w5.cell? ⟨w.heap.size, 1, none⟩ = some (vl) := HX05.out.cell 1
    have m2 : w5.cell? ⟨w.heap.size, 2, none⟩ = some (.slice A n c) := HX05.out.cell 2
    have m3 : w5.cell? ⟨w.heap.size, 3, none⟩ = some (.slice Ab nb cb) := HX05.out.cell 3
    obtain ⟨hbs, hhb⟩ : ∃ b, bs.contains node = b := ⟨_, rfl⟩
    have HHb := Lib.hid hhb
    clear hhb
    go_wp2_with fail
    with_reducible refine (lhas_any Ab nb cb _ bs node hbs w5 (by have h := HS5.out.nam; obtain ⟨A', n', c', h1, h2, h3, h4, h5⟩ := h; cases h1; exact h5) (by simp only [maxLen]; omega) HHb.out).mono ?_
    rintro e w' ⟨rfl, rfl⟩
    cases hbs with
    | true =>
      have d4 : decide (M ≥ 1000000) = true := decide_eq_true (eg_base HK.out HMv.out (by have h := HHb.out; rwa [List.contains_iff_mem] at h))
      go_wp2_with fail
      try go_ret
      exact ⟨rfl, HW5.out⟩
    | false =>
      have HBo0 : Hid (M ≤ outN rs uu node) := hide (eg_bound HK.out HMv.out (fun h => by have h2 := HHb.out; rw [← List.contains_iff_mem, h2] at h; cases h))
      have HGr : Hid (∀ x ∈ rs, 1 ≤ x.gr ∧ x.gr ≤ 4) := fun x hx => (HK.out.eg.runs x hx).2.2
      have HSn : Hid (∀ k, k < n → outN (rs.take (k + 1)) uu node = outN (rs.take k) uu node + if (rs.getD k rn0).fr = node ∧ uu.contains (rs.getD k rn0).id = true then (5 - (rs.getD k rn0).gr) * 500 else 0) := fun k hk => out_snoc (by rw [HL.out]; exact hk)
      have HTk : Hid (∀ k, k ≤ n → 0 ≤ outN (rs.take k) uu node ∧ outN (rs.take k) uu node ≤ 2000 * (k : Int)) := fun k hk => outN_take HGr.out k (by rw [HL.out]; exact hk)
      have HGk : Hid (∀ k, k < n → 1 ≤ (rs.getD k rn0).gr ∧ (rs.getD k rn0).gr ≤ 4) := fun k hk => HGr.out _ (by simp [List.getElem?_eq_getElem (show k < rs.length by rw [HL.out]; exact hk)])
      have HEn : Hid (outN (rs.take n) uu node = outN rs uu node) := hide (by rw [List.take_of_length_le (by rw [HL.out]; exact Nat.le_refl _)])
      have HSt0 : Hid (outN (rs.take 0) uu node = 0) := hide rfl
      obtain ⟨O, hO⟩ : ∃ f : Nat → Int, (fun k => outN (rs.take k) uu node) = f := ⟨_, rfl⟩
      have hO' : ∀ k, outN (rs.take k) uu node = O k := fun k => congrFun hO k
      simp only [hO'] at HSn HTk HEn HSt0
      rw [← HEn.out] at HBo0
      clear hO hO' HEn HGr HE
      go_wp2_with fail
      clear m0 m1 m2 m3
      go_loopw [11, 12] (fun v i wr => ∃ (k : Nat) (T : Int), k ≤ n ∧ i = .int .i64 k ∧ v = .int .i64 T ∧ Hid (T = O k) ∧ Below wb.heap.size wb wr) (fun _ i _ => n - (intOf i).toNat)
      case atStart => exact ⟨0, 0, by omega, rfl, rfl, hide HSt0.out.symm, HB5.out⟩
      case round =>
        obtain ⟨k, T, hk, rfl, rfl, HT, hbr⟩ := hrel
        obtain ⟨wo, rfl⟩ : ∃ wo : World, wo = wr := ⟨_, rfl⟩
        have HBo := Lib.hid (HBb.out.trans (hbr.mono hszb))
        have HWo := Lib.hid (HWb.out.trans (hbr.mono HWb.out.size))
        have hszo : wb.heap.size ≤ wo.heap.size := Nat.le_trans hszb hbr.size
        have HX0o := Lib.hid (HX0b.out.below hbr (Nat.lt_of_lt_of_le hxx0 hszb))
        have HMo := Lib.hid (HMb.out.now hbr)
        have HLo := Lib.hid (HLb.out.now hbr)
        have HRo := Lib.hid (HRb.out.now hbr)
        have HSo := Lib.hid (HSb.out.now hbr)
        have HUo := Lib.hid (HUb.out.now hbr)
        have HQo := Lib.hid (HQb.out.now hbr)
        clear hbr
        have m0 : wo.cell? ⟨w.heap.size, 0, none⟩ = some (vn) := HX0o.out.cell 0
        have m1 : wo.cell? ⟨w.heap.size, 1, none⟩ = some (vl) := HX0o.out.cell 1
        have m2 : wo.cell? ⟨w.heap.size, 2, none⟩ = some (.slice A n c) := HX0o.out.cell 2
        have m3 : wo.cell? ⟨w.heap.size, 3, none⟩ = some (.slice Ab nb cb) := HX0o.out.cell 3
        have hTb := HTk.out k hk
        rw [← HT.out] at hTb
        have hRs : Strs Rn.cells 7 wo wo.heap.size A n rs := by have h := HRo.out.nam; obtain ⟨A', n', c', h1, h2, h3, h4, h5⟩ := h; cases h1; exact h5
        by_cases hlt : k < n
        · obtain ⟨ad, rfl, hab, hcs⟩ := strs_at hRs (fun _ => rfl) HL.out hlt rn0
          have HS1 := Lib.hid (HSn.out k hlt)
          rw [← HT.out] at HS1
          have hgr := HGk.out k hlt
          generalize rs.getD k rn0 = b at *
          obtain ⟨id, op, fr, tt, gr, zn, ln⟩ := b
          simp only at hgr HS1
          have pi : wo.cell? (ad.add (k * 7)) = some (.int .i64 id) := by have h := hcs 0 _ rfl; rwa [add_of_add, Nat.add_zero] at h
          have pf : wo.cell? ⟨(ad.add (k * 7)).block, (ad.add (k * 7)).off + 2, none⟩ = some (.int .i64 fr) := hcs 2 _ rfl
          have pg : wo.cell? ⟨(ad.add (k * 7)).block, (ad.add (k * 7)).off + 4, none⟩ = some (.int .i64 gr) := hcs 4 _ rfl
          clear hcs hRs
          obtain ⟨ct, hct⟩ : ∃ b, uu.contains id = b := ⟨_, rfl⟩
          have HCt := Lib.hid hct
          rw [hct] at HS1
          clear hct
          by_cases hf : fr = node
          rotate_left
          · have d5 : (fr == node) = false := beq_eq_false_iff_ne.2 hf
            have HN : Hid (T = O (k + 1)) := hide (by rw [HS1.out, if_neg (fun h => hf h.1), Int.add_zero])
            clear hf
            go_wp2_with fail
            go_roundw
            case rel => exact ⟨k + 1, T, by omega, by go_num, rfl, hide HN.out, HBo.out⟩
            case measure => simp [intOf]; omega
          have d5 : (fr == node) = true := beq_iff_eq.2 hf
          have HF := Lib.hid hf
          clear hf
          go_wp2_with fail
          with_reducible refine (lhas_any uuA uun uuc _ uu id ct wo HUo.out (by simp only [maxLen]; omega) HCt.out).mono ?_
          rintro e w' ⟨rfl, rfl⟩
          cases ct with
          | false =>
            have HN : Hid (T = O (k + 1)) := hide (by rw [HS1.out, if_neg (fun h => Bool.false_ne_true h.2), Int.add_zero])
            go_wp2_with fail
            go_roundw
            case rel => exact ⟨k + 1, T, by omega, by go_num, rfl, hide HN.out, HBo.out⟩
            case measure => simp [intOf]; omega
          | true =>
            have HN : Hid (T + (5 - gr) * 500 = O (k + 1)) := hide (by rw [HS1.out, if_pos ⟨HF.out, rfl⟩])
            go_wp2_with fail
            go_roundw
            case rel => exact ⟨k + 1, _, by omega, by go_num, rfl, hide HN.out, HBo.out⟩
            case measure => simp [intOf]; omega
        · obtain rfl : k = n := by omega
          have d6 : decide (M ≥ 0) = true := decide_eq_true hMb.1
          have d7 : decide (M ≤ T) = true := decide_eq_true (by rw [HT.out]; exact HBo0.out)
          go_wp2_with fail
          try go_ret
          exact ⟨rfl, HWo.out⟩


theorem own_censusWays : ownKnob Try.prog.godebug = none := by kernel_rfl
theorem laidOut_censusWays : laidOutB Try.prog = true := by kernel_rfl
set_option maxRecDepth 100000 in
theorem censusWays_lifted (os : Os) (started : os.Started) (H : Type) (enc : TypeId × Value → H) :
    ReturnsInHanded {} Try.checked os 8 .any (Rows.censusWaysSpec.pre6 enc Try.prog Try.f8 Rows.censusWaysRow.domain false) (Rows.censusWaysSpec.post enc Try.prog Try.f8 false true false false) := by
  refine returnsInHanded_of_change (C := Try.checked) own_censusWays started (by kernel_rfl) Try.func8
    (ChangeSpec.witness6 (enc := enc) (C := Try.checked) false ⟨#[], #[.agg #[.slice none 0 0, .slice none 0 0, .slice none 0 0, .slice none 0 0], .slice none 0 0, .slice none 0 0, .int .i64 0], []⟩ 8 (by kernel_rfl) (by kernel_rfl) (by kernel_rfl) (by kernel_rfl)) ?_
  intro W base args ds gs before hval0 hW hcnd _
  have hval : ∀ (j : Nat) t v, Try.f8.params[j]? = some t → args[j]? = some v → Value.okWide Try.prog W .any base t v := hval0
  have hW' := hW
  obtain ⟨p, q, hA0, hV, rfl, hfz, hnd⟩ := hW
  have hA : DataW.TrodAll enc Try.prog W 0 (fun _ => true) true Try.f8.params.toList args.toList ds p := hA0
  rw [Try.params8] at hA hval
  obtain ⟨v0, vs0, d0, ds0, p0, q0, hargs, rfl, rfl, h0, r0⟩ := trodAll_cons hA
  obtain ⟨v1, vs1, d1, ds1, p1, q1, rfl, rfl, rfl, h1, r1⟩ := trodAll_cons r0
  obtain ⟨v2, vs2, d2, ds2, p2, q2, rfl, rfl, rfl, h2, r2⟩ := trodAll_cons r1
  obtain ⟨v3, vs3, d3, ds3, p3, q3, rfl, rfl, rfl, h3, r3⟩ := trodAll_cons r2
  obtain ⟨rfl, rfl, rfl⟩ := trodAll_nil r3
  obtain rfl : args = #[v0, v1, v2, v3] := by cases args; simp_all
  obtain ⟨rfl, rfl⟩ := trodVars_none hV
  obtain ⟨vn, vl, vr, vb, nd, lf, rs, bs, rfl, hnd, hlf, hrs, hbs⟩ := open_map (hval 0 44 v0 rfl rfl) h0
  obtain ⟨uuA, uun, uuc, uu, rfl, uu1, uu2, uur, uuw⟩ := open_ints_any Try.underlying42 Try.underlying3 (by kernel_rfl) (hval 1 42 v1 rfl rfl) h1
  obtain ⟨mmA, mmn, mmc, mm, rfl, mm1, mm2, mmr, mmw⟩ := open_ints_any Try.underlying42 Try.underlying3 (by kernel_rfl) (hval 2 42 v2 rfl rfl) h2
  obtain ⟨node, rfl, _, _⟩ := open_i64 Try.underlying3 (hval 3 3 v3 rfl rfl) h3
  refine (censusWays_any W vn vl vr vb nd lf rs bs hnd hlf hrs hbs uuA uun uuc uu uu1 uu2 uur uuw mmA mmn mmc mm mm1 mm2 mmr mmw node).mono fun e W' ⟨he, hb⟩ => ?_
  subst he
  exact ⟨_, rfl, law_post laidOut_censusWays (by kernel_rfl) rfl rfl Try.underlying4 hW' rfl hb⟩

theorem censusWays_holds : Rows.CensusWaysSaid :=
  OpenClaim.holds_of_wide 8 Try.f8 rfl rfl rfl rfl rfl rfl rfl ⟨rfl, rfl, rfl, rfl, rfl⟩ rfl rfl rfl rfl rfl (by kernel_rfl) Try.func8 (by kernel_rfl)
    (of_decide_eq_true (by kernel_rfl)) (by unfold Func.isWrapper; rw [if_neg (by decide +kernel)]; exact ⟨rfl, rfl⟩)
    (fun os started H enc _ => censusWays_lifted os started H enc)
#print axioms censusWays_holds

end Go.Proofs.Ytihmboibpjfohaa
