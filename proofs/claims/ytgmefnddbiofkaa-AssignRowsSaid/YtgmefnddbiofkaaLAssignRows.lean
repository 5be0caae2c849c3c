/-
  AssignRows answers true for every input. Its conditions: none.
-/
import Derived.Test.YtgmefnddbiofkaaAssignA
import Derived.Test.YtgmefnddbiofkaaAssignW
import Derived.Test.YtgmefnddbiofkaaRowMat
namespace Go.Proofs.Ytgmefnddbiofkaa
open Go.ChangeShapes Go.WideShapes Go.ChangeAt Go.RowKit

theorem ei_row : EInfo Try.prog 22 27 1 24 := EInfo.mk' Try.underlying22 (z := .slice none 0 0) (by kernel_rfl) rfl (by omega)
theorem zero_cells (n : Nat) : (madeCells (Value.int .i64 0).cells (n * 1)).toList = (zeroL n).map (Value.int .i64) := by
  rw [Nat.mul_one, show (Value.int .i64 0).cells = #[.int .i64 0] from rfl, toList_madeCells_one]
  simp [zeroL]
theorem swap_vals {vs : List Value} {a b : Nat} {x y : Value} (hx : vs[a]? = some x) (hy : vs[b]? = some y) : (vs.set a y).set b x = swapL vs (.slice none 0 0) a b := by
  unfold swapL
  simp [List.getD_eq_getElem?_getD, hx, hy]

set_option maxRecDepth 100000 in
set_option maxHeartbeats 4000000 in
theorem assignRows_any (w : World) (mA : Option Addr) (mn mc : Nat) (m : List (List Int)) (m1 : mn ≤ mc) (m2 : mc ≤ maxLen) (mr : Mat w w.heap.size mA mn m) (mw : ∀ r ∈ m, ∀ y ∈ r, (Lit.int .i64 y).wf = true) (a : Int) (ha : -9223372036854775808 ≤ a ∧ a ≤ 9223372036854775807) (b : Int) (hb : -9223372036854775808 ≤ b ∧ b ≤ 9223372036854775807) :
    Calls Try.prog 9 #[.slice mA mn mc, .int .i64 a, .int .i64 b] w fun e w' => e = .returned (.bool true) ∧ Below w.heap.size w w' := by
  have hml : mn ≤ maxLen := Nat.le_trans m1 m2
  have HM := Lib.hid mr
  have HL := Lib.hid mr.len
  clear mr mw m2
  obtain ⟨s, hs⟩ : ∃ s, rightB m = s := ⟨_, rfl⟩
  cases s with
  | true =>
    have HRM := Lib.hid (rightB_right hs)
    have h8 : mn ≤ 8 := by rw [← HL.out]; exact HRM.out.few
    have HS := Lib.hid hs
    clear hs
    by_cases hall : 0 ≤ a ∧ a < mn ∧ 0 ≤ b ∧ b < mn
    · obtain ⟨ha0, han, hb0, hbn⟩ := hall
      obtain ⟨I, rfl⟩ := Int.eq_ofNat_of_zero_le ha0
      obtain ⟨J, rfl⟩ := Int.eq_ofNat_of_zero_le hb0
      have hI : I < mn := by omega
      have hJ : J < mn := by omega
      clear ha0 hb0 ha hb
      have d1 : decide ((I : Int) < 0) = false := by simp
      have d2 : decide ((mn : Int) ≤ (I : Int)) = false := by simp; omega
      have d3 : decide (mn ≤ I) = false := by simp; omega
      have d4 : decide ((J : Int) < 0) = false := by simp
      have d5 : decide ((mn : Int) ≤ (J : Int)) = false := by simp; omega
      have d6 : decide (mn ≤ J) = false := by simp; omega
      have HIL : Hid (I < m.length) := by show _ < _; rw [HL.out]; exact hI
      have HJL : Hid (J < m.length) := by show _ < _; rw [HL.out]; exact hJ
      go_enter Try.func9, Try.ntmps9
      go_wp2_with fail
      with_reducible refine (alive_any _).mono ?_
      rintro e w1 ⟨rfl, hb1⟩
      have HM1 := Lib.hid (HM.out.now hb1)
      go_wp2_with fail
      with_reducible refine (right_b true _ _ _ _ _ _ HM1.out hml HS.out).mono ?_
      rintro e w2 ⟨rfl, hd2⟩
      have hb2 : Below w1.heap.size w1 w2 := by obtain ⟨k, rfl⟩ := hd2; exact below_drewN (Below.refl _ _) k
      have HM2 := Lib.hid (HM1.out.now hb2)
      have hbb2 := hb1.trans (hb2.mono hb1.size)
      clear hd2 hb2 HM1
      obtain ⟨vs, hvr, hvl, hvx⟩ := Mat.vals (te := 3) HM2.out
      have HVR := Lib.hid hvr
      have HVL := Lib.hid hvl
      have HVX := Lib.hid hvx
      have HV1 := Lib.hid (RowsX.one hvx hvl)
      clear hvr hvl hvx
      go_wp2_with
        (at_builtin
         refine wpList_app _ ei_row rfl (.tmp 48) (.tmp 49) rfl w2.heap.size (.slice none 0 0) 0 [] rfl (World.ownsRow_nil _ _ _ _) w2.heap.size mA mn mc vs rfl HVR.out HV1.out (by simp only [maxLen]; omega) (by omega) (Nat.le_refl _) ?_
         intro v3 w3 hown3 hg3 hbw3 hat3
         simp only [Nat.zero_add, List.nil_append] at hown3
         obtain ⟨g, c3, rfl, hg⟩ := own_pos hown3 (by omega)
         have HO3 := Lib.hid hown3
         have HB3 := Lib.hid hbw3
         clear hown3 hg3 hbw3 hat3)
      obtain ⟨ad, x, hA, hadb, hvx, hcx⟩ := (HVR.out.now HB3.out).at_ hI
      obtain ⟨ad', y, hA', _, hvy, hcy⟩ := (HVR.out.now HB3.out).at_ hJ
      obtain rfl : ad = ad' := by rw [hA] at hA'; injection hA'
      subst hA
      have hadg : ad.block ≠ g := by
        obtain ⟨ad2, e2, hlt2, _⟩ := HVR.out.2 (by omega)
        injection e2 with e2
        subst e2
        omega
      have o1 : x.oneCell' = true := HV1.out x (List.mem_of_getElem? hvx)
      have o2 : y.oneCell' = true := HV1.out y (List.mem_of_getElem? hvy)
      have hcl : x.cells = #[x] ∧ y.cells = #[y] := ⟨one_cells o1, one_cells o2⟩
      have hlenv : vs.length = mn := by rw [HVL.out, HL.out]
      have h0 : w3.drew.cell? (ad.add I) = some x ∧ w3.drew.cell? (ad.add J) = some y := ⟨hcx, hcy⟩
      have HO3d : Hid (w3.drew.ownsRow w2.heap.size 27 1 (.slice (some ⟨g, 0, none⟩) mn c3) mn vs) := hide HO3.out
      have HB3d : Hid (Below w2.heap.size w2 w3.drew) := hide HB3.out.drew
      refine wp_region_held_drew (S := fun W => W.cell? (ad.add I) = some x ∧ W.cell? (ad.add J) = some y) (by kernel_rfl) (h0) (fun hHeld => ?_)
      refine held_run 0 (some 51) (.move (.tmp 7)) ?v7_1_2 (by rfl) (by kernel_rfl) (by kernel_rfl) (by kernel_rfl) (fun _ _ _ h => h) (fun o ho w hS => ?y7_1_2) (by assumption) ?r7_1_2
      case y7_1_2 => (try dsimp only at hS); unfold execOp; simp only [ho]; go_simp; try with_reducible rfl
      try simp only [Act.put, List.setIfInBounds_toArray, List.set_cons_zero, List.set_cons_succ]
      refine held_run 1 (some 52) (.move (.tmp 1)) ?v7_1_3 (by rfl) (by kernel_rfl) (by kernel_rfl) (by kernel_rfl) (fun _ _ _ h => h) (fun o ho w hS => ?y7_1_3) (by assumption) ?r7_1_3
      case y7_1_3 => (try dsimp only at hS); unfold execOp; simp only [ho]; go_simp; try with_reducible rfl
      try simp only [Act.put, List.setIfInBounds_toArray, List.set_cons_zero, List.set_cons_succ]
      refine held_run 2 (some 53) (.move (.tmp 7)) ?v7_1_4 (by rfl) (by kernel_rfl) (by kernel_rfl) (by kernel_rfl) (fun _ _ _ h => h) (fun o ho w hS => ?y7_1_4) (by assumption) ?r7_1_4
      case y7_1_4 => (try dsimp only at hS); unfold execOp; simp only [ho]; go_simp; try with_reducible rfl
      try simp only [Act.put, List.setIfInBounds_toArray, List.set_cons_zero, List.set_cons_succ]
      refine held_run 3 (some 54) (.move (.tmp 2)) ?v7_1_5 (by rfl) (by kernel_rfl) (by kernel_rfl) (by kernel_rfl) (fun _ _ _ h => h) (fun o ho w hS => ?y7_1_5) (by assumption) ?r7_1_5
      case y7_1_5 => (try dsimp only at hS); unfold execOp; simp only [ho]; go_simp; try with_reducible rfl
      try simp only [Act.put, List.setIfInBounds_toArray, List.set_cons_zero, List.set_cons_succ]
      refine held_run 4 (some 55) (.move (.tmp 0)) ?v7_1_6 (by rfl) (by kernel_rfl) (by kernel_rfl) (by kernel_rfl) (fun _ _ _ h => h) (fun o ho w hS => ?y7_1_6) (by assumption) ?r7_1_6
      case y7_1_6 => (try dsimp only at hS); unfold execOp; simp only [ho]; go_simp; try with_reducible rfl
      try simp only [Act.put, List.setIfInBounds_toArray, List.set_cons_zero, List.set_cons_succ]
      refine held_run 5 (some 56) (.move (.tmp 2)) ?v7_1_7 (by rfl) (by kernel_rfl) (by kernel_rfl) (by kernel_rfl) (fun _ _ _ h => h) (fun o ho w hS => ?y7_1_7) (by assumption) ?r7_1_7
      case y7_1_7 => (try dsimp only at hS); unfold execOp; simp only [ho]; go_simp; try with_reducible rfl
      try simp only [Act.put, List.setIfInBounds_toArray, List.set_cons_zero, List.set_cons_succ]
      refine held_run 6 (some 57) (.indexAddr 22 (.tmp 55) (.tmp 56)) ?v7_1_8 (by rfl) (by kernel_rfl) (by kernel_rfl) (by kernel_rfl) (fun _ _ _ h => h) (fun o ho w hS => ?y7_1_8) (by assumption) ?r7_1_8
      case y7_1_8 => (try dsimp only at hS); unfold execOp; simp only [ho]; go_simp; try with_reducible rfl
      try simp only [Act.put, List.setIfInBounds_toArray, List.set_cons_zero, List.set_cons_succ]
      refine held_run 7 (some 58) (.load 27 (.tmp 57)) ?v7_1_9 (by rfl) (by kernel_rfl) (by kernel_rfl) (by kernel_rfl) (fun _ _ _ h => h) (fun o ho w hS => ?y7_1_9) (by assumption) ?r7_1_9
      case y7_1_9 => (try dsimp only at hS); unfold execOp; simp only [ho]; go_simp; try with_reducible rfl
      try simp only [Act.put, List.setIfInBounds_toArray, List.set_cons_zero, List.set_cons_succ]
      refine held_run 8 (some 59) (.move (.tmp 0)) ?v7_1_10 (by rfl) (by kernel_rfl) (by kernel_rfl) (by kernel_rfl) (fun _ _ _ h => h) (fun o ho w hS => ?y7_1_10) (by assumption) ?r7_1_10
      case y7_1_10 => (try dsimp only at hS); unfold execOp; simp only [ho]; go_simp; try with_reducible rfl
      try simp only [Act.put, List.setIfInBounds_toArray, List.set_cons_zero, List.set_cons_succ]
      refine held_run 9 (some 60) (.move (.tmp 1)) ?v7_1_11 (by rfl) (by kernel_rfl) (by kernel_rfl) (by kernel_rfl) (fun _ _ _ h => h) (fun o ho w hS => ?y7_1_11) (by assumption) ?r7_1_11
      case y7_1_11 => (try dsimp only at hS); unfold execOp; simp only [ho]; go_simp; try with_reducible rfl
      try simp only [Act.put, List.setIfInBounds_toArray, List.set_cons_zero, List.set_cons_succ]
      refine held_run 10 (some 61) (.indexAddr 22 (.tmp 59) (.tmp 60)) ?v7_1_12 (by rfl) (by kernel_rfl) (by kernel_rfl) (by kernel_rfl) (fun _ _ _ h => h) (fun o ho w hS => ?y7_1_12) (by assumption) ?r7_1_12
      case y7_1_12 => (try dsimp only at hS); unfold execOp; simp only [ho]; go_simp; try with_reducible rfl
      try simp only [Act.put, List.setIfInBounds_toArray, List.set_cons_zero, List.set_cons_succ]
      refine held_run 11 (some 62) (.load 27 (.tmp 61)) ?v7_1_13 (by rfl) (by kernel_rfl) (by kernel_rfl) (by kernel_rfl) (fun _ _ _ h => h) (fun o ho w hS => ?y7_1_13) (by assumption) ?r7_1_13
      case y7_1_13 => (try dsimp only at hS); unfold execOp; simp only [ho]; go_simp; try with_reducible rfl
      try simp only [Act.put, List.setIfInBounds_toArray, List.set_cons_zero, List.set_cons_succ]
      refine held_run 12 (some 63) (.indexAddr 22 (.tmp 51) (.tmp 52)) ?v7_1_14 (by rfl) (by kernel_rfl) (by kernel_rfl) (by kernel_rfl) (fun _ _ _ h => h) (fun o ho w hS => ?y7_1_14) (by assumption) ?r7_1_14
      case y7_1_14 => (try dsimp only at hS); unfold execOp; simp only [ho]; go_simp; try with_reducible rfl
      try simp only [Act.put, List.setIfInBounds_toArray, List.set_cons_zero, List.set_cons_succ]
      refine held_one 13 (by kernel_rfl) ?_
      refine op_store_own 13 27 (.tmp 63) (.tmp 58) (by rfl) (HO3d.out) (I) (hI) (y) (by rfl) (by rfl) (by kernel_rfl) (o2) (hcl.2) ?_
      intro w4 hown4 hon4
      have HO4 := Lib.hid hown4
      have HB4 := Lib.hid (hon4.below HB3d.out hg)
      clear h0
      have h0 : w4.cell? (ad.add I) = some x ∧ w4.cell? (ad.add J) = some y := ⟨(hon4.cell (by rw [block_of_add]; exact hadg)).trans hcx, (hon4.cell (by rw [block_of_add]; exact hadg)).trans hcy⟩
      clear hown4 hon4
      refine ⟨h0, ?_⟩
      try simp only [Act.put]
      refine held_run 14 (some 64) (.indexAddr 22 (.tmp 53) (.tmp 54)) ?v7_1_16 (by rfl) (by kernel_rfl) (by kernel_rfl) (by kernel_rfl) (fun _ _ _ h => h) (fun o ho w hS => ?y7_1_16) (by assumption) ?r7_1_16
      case y7_1_16 => (try dsimp only at hS); unfold execOp; simp only [ho]; go_simp; try with_reducible rfl
      try simp only [Act.put, List.setIfInBounds_toArray, List.set_cons_zero, List.set_cons_succ]
      refine held_one 15 (by kernel_rfl) ?_
      refine op_store_own 15 27 (.tmp 64) (.tmp 62) (by rfl) (HO4.out) (J) (hJ) (x) (by rfl) (by rfl) (by kernel_rfl) (o1) (hcl.1) ?_
      intro w5 hown5 hon5
      have HO5 : Hid (w5.ownsRow w2.heap.size 27 1 (.slice (some ⟨g, 0, none⟩) mn c3) mn (swapL vs (.slice none 0 0) I J)) := by
        rw [swap_vals hvx hvy] at hown5
        exact hide hown5
      have HB5 := Lib.hid (hon5.below HB4.out hg)
      have h1 : w5.cell? (ad.add I) = some x ∧ w5.cell? (ad.add J) = some y := ⟨(hon5.cell (by rw [block_of_add]; exact hadg)).trans h0.1, (hon5.cell (by rw [block_of_add]; exact hadg)).trans h0.2⟩
      clear h0
      have h0 := h1
      clear hown5 hon5 h1
      refine ⟨h0, ?_⟩
      try simp only [Act.put]
      refine wpAnyH_done (by kernel_rfl) ?_ _
      clear h0 hcx hcy
      have HM5 := Lib.hid (HM2.out.now HB5.out)
      have hbb5 := hbb2.trans (HB5.out.mono hbb2.size)
      have HT5 : Hid (Mat w5 w5.heap.size (some ⟨g, 0, none⟩) mn (swapL m [] I J)) := by
        have h := RowsX.swap (RowsX.below HVX.out HB5.out (Nat.le_refl _)) HVL.out (d := .slice none 0 0) HIL.out HJL.out
        exact hide (RowsX.mat h HO5.out (by rw [swapL_len, HL.out]) HB5.out.size)
      have HRS := Lib.hid (swap_right HRM.out HIL.out HJL.out)
      go_wp2_with fail
      with_reducible refine (best_ok _ _ _ _ _ HM5.out HRM.out).mono ?_
      rintro e w6 ⟨p, n, vA, vc, rfl, hbest, _, _, _, hb6⟩
      have HBest := Lib.hid hbest
      have HM6 := Lib.hid (HM5.out.now hb6)
      have HT6 := Lib.hid (HT5.out.now hb6)
      have hbb6 := hbb5.trans (hb6.mono hbb5.size)
      clear hbest hb6
      go_wp2_with fail
      with_reducible refine (best_ok _ _ _ _ _ HT6.out HRS.out.1).mono ?_
      rintro e w7 ⟨q, n', vA', vc', rfl, hbest2, _, _, _, hb7⟩
      obtain rfl : n = n' := swap_best HRM.out HIL.out HJL.out HBest.out hbest2
      have HM7 := Lib.hid (HM6.out.now hb7)
      have hbb7 := hbb6.trans (hb7.mono hbb6.size)
      clear hbest2 hb7 HM5 HT5 HM6 HT6 HO3 HO3d HO4 HO5 HB3 HB3d HB4 HB5 HVR HVL HVX HV1 hvx hvy hbb2 hbb5 hbb6
      obtain ⟨C, hC⟩ : ∃ C, colsR m = C := ⟨_, rfl⟩
      have HC := Lib.hid hC
      have HCm : Hid (∀ k, k < mn → (m.getD k []).length = C) := fun k hk => by
        have hr : m.getD k [] ∈ m := by simp [List.getElem?_eq_getElem (show k < m.length by rw [HL.out]; exact hk)]
        rw [← hC]
        exact (right_mem HRM.out hr).1
      have hC8 : C ≤ 8 := by rw [← hC]; exact HRM.out.cols_le.2
      clear hC
      obtain ⟨i0, hi0, hz0, hz1, hz2⟩ := info_parts (show (Try.prog.info? 3).map (fun i => (i.zero, i.size, i.bytes)) = some (some (.int .i64 0), 1, 8) by kernel_rfl)
      have HI := Lib.hid (And.intro hi0 (And.intro hz0 (And.intro hz1 hz2)))
      clear hi0 hz0 hz1 hz2
      obtain ⟨Z, hZ⟩ : ∃ Z, m.set I (zeroL C) = Z := ⟨_, rfl⟩
      have HZ := Lib.hid hZ
      have HZs : Hid (∀ k, k < mn → Z.take (k + 1) = Z.take k ++ [if I = k then zeroL C else m.getD k []]) := fun k hk => by
        rw [← hZ]
        exact free_snoc (by rw [HL.out]; exact hk)
      have HZl : Hid (Z.length = mn) := by show _ = _; rw [← hZ, List.length_set, HL.out]
      clear hZ
      go_wp2_with fail
      go_loopw [14, 15, 16] (fun vF vL i wr => ∃ (k L : Nat) (xf xl : List Value), k ≤ mn ∧ L ≤ k ∧ i = .int .i64 k ∧ (lessK m I k).length = L ∧ wr.ownsRow w7.heap.size 27 1 vF k xf ∧ wr.ownsRow w7.heap.size 27 1 vL L xl ∧
        RowsX 3 w7.heap.size wr xf (Z.take k) ∧ RowsX 3 w7.heap.size wr xl (lessK m I k) ∧ (vL.ownBlock = none ∨ vL.ownBlock ≠ vF.ownBlock) ∧ Below w7.heap.size w7 wr) (fun _ _ i _ => mn - (intOf i).toNat)
      case atStart => exact ⟨0, 0, [], [], by omega, by omega, rfl, by simp [lessK], World.ownsRow_nil _ _ _ _, World.ownsRow_nil _ _ _ _, by rw [List.take_zero]; exact RowsX.nil, by rw [show lessK m I 0 = [] by simp [lessK]]; exact RowsX.nil, .inl rfl, Below.refl _ _⟩
      case round =>
        obtain ⟨k, L, xf, xl, hk, hLk, rfl, hll, hof, hol, hxf, hxl, hdis, hbr⟩ := hrel
        obtain ⟨wo, rfl⟩ : ∃ wo : World, wo = wr := ⟨_, rfl⟩
        obtain ⟨fA, fc, rfl, hfc1, hfc2, _⟩ := own_open hof
        obtain ⟨lA, lc, rfl, hlc1, hlc2, _⟩ := own_open hol
        have HOf := Lib.hid hof
        have HOl := Lib.hid hol
        have HXf := Lib.hid hxf
        have HXl := Lib.hid hxl
        have HD := Lib.hid hdis
        have HLL := Lib.hid hll
        have hxfl : xf.length = k := by have := hof.1; omega
        have hxll : xl.length = L := by have := hol.1; omega
        have HXFL : Hid (xf.length = (Z.take k).length) := by show _ = _; rw [hxfl, List.length_take, HZl.out]; omega
        have HXLL : Hid (xl.length = (lessK m I k).length) := by show _ = _; rw [hxll, hll]
        clear hof hol hxf hxl hdis hll hxfl hxll
        by_cases hlt : k < mn
        · obtain ⟨ad', rA, rc, hAD, hadb', hc, hrl, hrc, hri⟩ := (HM7.out.below hbr).row hlt
          obtain rfl : ad = ad' := by injection hAD
          have hadb7 := hadb'
          clear hAD hadb'
          have HRV : Hid (RowV wo w7.heap.size (.slice rA (m.getD k []).length rc) (m.getD k [])) := hide ⟨rA, rc, rfl, hrl, hrc, hri⟩
          have hkC := HCm.out k hlt
          have HZk := Lib.hid (HZs.out k hlt)
          rw [hkC] at hc hrl
          have hc' := hc
          clear hc hri
          by_cases hkI : k = I
          · subst hkI
            have HLn : Hid (lessK m k (k + 1) = lessK m k k) := less_at
            have hkk : ((k : Int) == (k : Int)) = true := beq_self_eq_true _
            have hcc := hc'
            clear hc'
            go_wp2_with (first
              | (at_make
                 refine wpList_make_full _ rfl (.tmp 91) (.tmp 91) _ rfl w7.heap.size 3 i0 (.int .i64 0) 1 Try.underlying27 HI.out.1 HI.out.2.1 HI.out.2.2.1 .i64 .i64 _ _ C rfl rfl rfl rfl (by rw [HI.out.2.2.2]; omega) (by simp only [maxLen]; omega) hbr.size ?_
                 intro w8 hown8 hg8
                 have hb8 : Below wo.heap.size wo w8 := (Below.refl _ _).grown hg8 (Nat.le_refl _) (fun k hk => by cases hk)
                 have HO8 : Hid (w8.ownsRow w7.heap.size 3 1 (.slice (some ⟨wo.heap.size, 0, none⟩) C C) (zeroL C).length ((zeroL C).map (Value.int .i64))) := by
                   rw [zero_cells] at hown8
                   rw [show (zeroL C).length = C by simp [zeroL]]
                   exact hide hown8
                 have HB8 := Lib.hid hb8
                 have HOf8 := Lib.hid (own_below HOf.out hb8 (Nat.le_refl _))
                 have HOl8 := Lib.hid (own_below HOl.out hb8 (Nat.le_refl _))
                 have HXf8 := Lib.hid (RowsX.below HXf.out hb8 hbr.size)
                 have HXl8 := Lib.hid (RowsX.below HXl.out hb8 hbr.size)
                 clear hown8 hg8 hb8)
              | (at_builtin
                 refine wpList_app _ ei_row rfl (.tmp 86) (.tmp 93) rfl w7.heap.size (.slice fA k fc) k xf rfl (HOf8.out.alloc _) (w8.heap.size + 1) (some ⟨w8.heap.size, 0, none⟩) 1 1 [.slice (some ⟨wo.heap.size, 0, none⟩) C C] rfl (Reads.new w8 27 #[.slice (some ⟨wo.heap.size, 0, none⟩) C C] 1 1 rfl) (by simp [Value.oneCell']) (by simp only [maxLen]; omega) (by omega) (by have := HB8.out.size; have := hbr.size; simp; omega) ?_
                 intro v9 w9 hown9 hg9 hbw9 hat9
                 have hba : Below w8.heap.size w8 (w8.alloc (.cells #[.slice (some ⟨wo.heap.size, 0, none⟩) C C] 27)) := (Below.refl _ _).alloc (Nat.le_refl _) _
                 have hsz : w7.heap.size ≤ w8.heap.size := Nat.le_trans hbr.size HB8.out.size
                 have HO9 := Lib.hid hown9
                 have HX9 : Hid (RowsX 3 w7.heap.size w9 (xf ++ [.slice (some ⟨wo.heap.size, 0, none⟩) C C]) (Z.take (k + 1))) := by
                   have h := RowsX.snoc (RowsX.below HXf8.out hba hsz) HXFL.out (.inr (HO8.out.alloc (.cells #[.slice (some ⟨wo.heap.size, 0, none⟩) C C] 27)))
                   have h2 := RowsX.grown h (HOf8.out.alloc _) (by decide) hg9 hbw9
                   show RowsX _ _ _ _ _
                   rw [HZk.out, if_pos rfl]
                   exact h2
                 have HXl9 : Hid (RowsX 3 w7.heap.size w9 xl (lessK m k (k + 1))) := by
                   have h2 := RowsX.grown (RowsX.below HXl8.out hba hsz) (HOf8.out.alloc _) (by decide) hg9 hbw9
                   rw [HLn.out]
                   exact hide h2
                 have HOl9 := Lib.hid (World.ownsRow.kept (HOl8.out.alloc _) hg9 HD.out)
                 have HD9 : Hid ((Value.slice lA L lc).ownBlock = none ∨ (Value.slice lA L lc).ownBlock ≠ v9.ownBlock) := own_ne_grown HD.out (HOl8.out.alloc (.cells #[.slice (some ⟨wo.heap.size, 0, none⟩) C C] 27)) (Nat.le_refl _) hat9
                 have HB9 : Hid (Below w7.heap.size w7 w9) := by
                   have h4 := hbr.trans (HB8.out.mono hbr.size)
                   exact hide ((h4.alloc h4.size _).trans hbw9)
                 clear hown9 hg9 hbw9 hat9 hba hsz))
            go_roundw
            case rel => exact ⟨k + 1, L, _, xl, by omega, by omega, by go_num, by rw [HLn.out]; exact HLL.out, HO9.out, HOl9.out, HX9.out, HXl9.out, HD9.out, HB9.out⟩
            case measure => simp [intOf]; omega
          · have hkk : ((k : Int) == (I : Int)) = false := beq_eq_false_iff_ne.2 (by omega)
            have HLn : Hid (lessK m I (k + 1) = lessK m I k ++ [m.getD k []]) := less_snoc (by rw [HL.out]; exact hlt) hkI
            have HZk' : Hid (Z.take (k + 1) = Z.take k ++ [m.getD k []]) := by rw [HZk.out, if_neg (fun e => hkI e.symm)]; exact hide rfl
            have hcc := hc'
            clear hc'
            rw [hkC] at HRV
            go_wp2_with (first
              | (at_builtin
                 refine wpList_app _ ei_row rfl (.tmp 95) (.tmp 100) rfl w7.heap.size (.slice fA k fc) k xf rfl (HOf.out.alloc _) (wo.heap.size + 1) (some ⟨wo.heap.size, 0, none⟩) 1 1 [.slice rA C rc] rfl (Reads.new wo 27 #[.slice rA C rc] 1 1 rfl) (by simp [Value.oneCell']) (by simp only [maxLen]; omega) (by omega) (by have := hbr.size; simp; omega) ?_
                 intro v8 w8 hown8 hg8 hbw8 hat8
                 have hba : Below wo.heap.size wo (wo.alloc (.cells #[.slice rA C rc] 27)) := (Below.refl _ _).alloc (Nat.le_refl _) _
                 have HO8 := Lib.hid hown8
                 have HB8 : Hid (Below w7.heap.size w7 w8) := hide ((hbr.alloc hbr.size _).trans hbw8)
                 have hbw : Below w7.heap.size wo w8 := (hba.mono hbr.size).trans hbw8
                 have HX8 : Hid (RowsX 3 w7.heap.size w8 (xf ++ [.slice rA C rc]) (Z.take (k + 1))) := by
                   have h := RowsX.snoc (RowsX.below HXf.out hba hbr.size) HXFL.out (.inl (HRV.out.below (hba.mono hbr.size)))
                   have h2 := RowsX.grown h (HOf.out.alloc _) (by decide) hg8 hbw8
                   show RowsX _ _ _ _ _
                   rw [HZk'.out]
                   exact h2
                 have HXl8 : Hid (RowsX 3 w7.heap.size w8 xl (lessK m I k)) := hide (RowsX.grown (RowsX.below HXl.out hba hbr.size) (HOf.out.alloc _) (by decide) hg8 hbw8)
                 have HOl8 := Lib.hid (World.ownsRow.kept (HOl.out.alloc _) hg8 HD.out)
                 have HD8 : Hid ((Value.slice lA L lc).ownBlock = none ∨ (Value.slice lA L lc).ownBlock ≠ v8.ownBlock) := own_ne_grown HD.out (HOl.out.alloc (.cells #[.slice rA C rc] 27)) (Nat.le_refl _) hat8
                 have HRV8 := Lib.hid (HRV.out.below hbw)
                 have hcc8 := (hbw.cell (p := ad.add k) (by rw [block_of_add]; exact hadb7)).trans hcc
                 obtain ⟨eA, ec, rfl, _, _, _⟩ := own_open HO8.out
                 clear hown8 hg8 hbw8 hat8 hba hbw)
              | (at_builtin
                 refine wpList_app _ ei_row rfl (.tmp 102) (.tmp 107) rfl w7.heap.size (.slice lA L lc) L xl rfl (HOl8.out.alloc _) (w8.heap.size + 1) (some ⟨w8.heap.size, 0, none⟩) 1 1 [.slice rA C rc] rfl (Reads.new w8 27 #[.slice rA C rc] 1 1 rfl) (by simp [Value.oneCell']) (by simp only [maxLen]; omega) (by omega) (by have := HB8.out.size; simp; omega) ?_
                 intro v9 w9 hown9 hg9 hbw9 hat9
                 have hba : Below w8.heap.size w8 (w8.alloc (.cells #[.slice rA C rc] 27)) := (Below.refl _ _).alloc (Nat.le_refl _) _
                 have HOl9 := Lib.hid hown9
                 have HX9 : Hid (RowsX 3 w7.heap.size w9 (xf ++ [.slice rA C rc]) (Z.take (k + 1))) := hide (RowsX.grown (RowsX.below HX8.out hba HB8.out.size) (HOl8.out.alloc _) (by decide) hg9 hbw9)
                 have HXl9 : Hid (RowsX 3 w7.heap.size w9 (xl ++ [.slice rA C rc]) (lessK m I (k + 1))) := by
                   have h := RowsX.snoc (RowsX.below HXl8.out hba HB8.out.size) HXLL.out (.inl (HRV8.out.below (hba.mono HB8.out.size)))
                   have h2 := RowsX.grown h (HOl8.out.alloc _) (by decide) hg9 hbw9
                   show RowsX _ _ _ _ _
                   rw [HLn.out]
                   exact h2
                 have HO9 := Lib.hid (World.ownsRow.kept (HO8.out.alloc _) hg9 (own_ne_symm HD8.out))
                 have HD9 : Hid (v9.ownBlock = none ∨ v9.ownBlock ≠ (Value.slice eA (k + 1) ec).ownBlock) := own_ne_symm (own_ne_grown (own_ne_symm HD8.out) (HO8.out.alloc (.cells #[.slice rA C rc] 27)) (Nat.le_refl _) hat9)
                 have HB9 : Hid (Below w7.heap.size w7 w9) := hide ((HB8.out.alloc HB8.out.size _).trans hbw9)
                 clear hown9 hg9 hbw9 hat9 hba))
            go_roundw
            case rel => exact ⟨k + 1, L + 1, _, _, by omega, by omega, by go_num, by rw [HLn.out, List.length_append, HLL.out]; rfl, HO9.out, HOl9.out, HX9.out, HXl9.out, HD9.out, HB9.out⟩
            case measure => simp [intOf]; omega
        · obtain rfl : k = mn := by omega
          have hbb8 := hbb7.trans (hbr.mono hbb7.size)
          have HFr := Lib.hid (free_right HRM.out HIL.out)
          have HLr := Lib.hid (less_right HRM.out HIL.out)
          have HMF : Hid (Mat wo wo.heap.size fA k (m.set I (zeroL (colsR m)))) := by
            have h := RowsX.mat HXf.out HOf.out (by rw [List.length_take, HZl.out]; omega) hbr.size
            rw [List.take_of_length_le (by rw [HZl.out]; exact Nat.le_refl _), ← HZ.out, ← HC.out] at h
            exact hide h
          have HML : Hid (Mat wo wo.heap.size lA L (m.eraseIdx I)) := by
            have h := RowsX.mat HXl.out HOl.out HLL.out hbr.size
            rw [← HL.out, less_end HIL.out] at h
            exact hide h
          clear hbr HOf HOl HXf HXl HXFL HXLL
          go_wp2_with fail
          with_reducible refine (best_ok _ _ _ _ _ HMF.out HFr.out.1).mono ?_
          rintro e w8 ⟨p8, x8, vA8, vc8, rfl, hbest8, _, _, _, hb8⟩
          have HB8 := Lib.hid hbest8
          have HML8 := Lib.hid (HML.out.now hb8)
          have hbb9 := hbb8.trans (hb8.mono hbb8.size)
          clear hbest8 hb8
          go_wp2_with fail
          with_reducible refine (best_ok _ _ _ _ _ HML8.out HLr.out.1).mono ?_
          rintro e w9 ⟨p9, x9, vA9, vc9, rfl, hbest9, _, _, _, hb9⟩
          obtain rfl : x8 = x9 := less_free HRM.out HIL.out HB8.out hbest9
          have hle : x8 ≤ n := free_le HRM.out HIL.out HBest.out HB8.out
          have hbb10 := hbb9.trans (hb9.mono hbb9.size)
          have g1 : (n == n) = true := beq_self_eq_true n
          have g2 : (x8 == x8) = true := beq_self_eq_true x8
          clear hbest9 hb9 hbb7 hbb8 hbb9
          go_wp2_with fail
          go_ret
          exact ⟨rfl, hbb10⟩
    · have hbad : a < 0 ∨ (0 ≤ a ∧ (mn : Int) ≤ a) ∨ (0 ≤ a ∧ a < mn ∧ b < 0) ∨ (0 ≤ a ∧ a < mn ∧ 0 ≤ b ∧ (mn : Int) ≤ b) := by omega
      clear hall
      rcases hbad with h1 | ⟨h1, h2⟩ | ⟨h1, h2, h3⟩ | ⟨h1, h2, h3, h4⟩
      all_goals
        go_enter Try.func9, Try.ntmps9
        go_wp2_with fail
        with_reducible refine (alive_any _).mono ?_
        rintro e w1 ⟨rfl, hb1⟩
        have HM1 := Lib.hid (HM.out.now hb1)
        go_wp2_with fail
        with_reducible refine (right_b true _ _ _ _ _ _ HM1.out hml HS.out).mono ?_
        rintro e w2 ⟨rfl, k, rfl⟩
        go_wp2_with fail
        go_ret
        exact ⟨rfl, below_drewN hb1 _⟩
  | false =>
    have HS := Lib.hid hs
    clear hs
    go_enter Try.func9, Try.ntmps9
    go_wp2_with fail
    with_reducible refine (alive_any _).mono ?_
    rintro e w1 ⟨rfl, hb1⟩
    have HM1 := Lib.hid (HM.out.now hb1)
    go_wp2_with fail
    with_reducible refine (right_b false _ _ _ _ _ _ HM1.out hml HS.out).mono ?_
    rintro e w2 ⟨rfl, k, rfl⟩
    go_wp2_with fail
    go_ret
    exact ⟨rfl, below_drewN hb1 _⟩


theorem own_assignRows : ownKnob Try.prog.godebug = none := by kernel_rfl
theorem laidOut_assignRows : laidOutB Try.prog = true := by kernel_rfl
set_option maxRecDepth 100000 in
theorem assignRows_lifted (os : Os) (started : os.Started) (H : Type) (enc : TypeId × Value → H) :
    ReturnsInHanded {} Try.checked os 9 .any (Rows.assignRowsSpec.pre6 enc Try.prog Try.f9 Rows.assignRowsRow.domain false) (Rows.assignRowsSpec.post enc Try.prog Try.f9 false true false false) := by
  refine returnsInHanded_of_change (C := Try.checked) own_assignRows started (by kernel_rfl) Try.func9
    (ChangeSpec.witness6 (enc := enc) (C := Try.checked) false ⟨#[], #[.slice none 0 0, .int .i64 0, .int .i64 0], []⟩ 8 (by kernel_rfl) (by kernel_rfl) (by kernel_rfl) (by kernel_rfl)) ?_
  intro W base args ds gs before hval0 hW hcnd _
  have hval : ∀ (j : Nat) t v, Try.f9.params[j]? = some t → args[j]? = some v → Value.okWide Try.prog W .any base t v := hval0
  have hW' := hW
  obtain ⟨p, q, hA0, hV, rfl, hfz, hnd⟩ := hW
  have hA : DataW.TrodAll enc Try.prog W 0 (fun _ => true) true Try.f9.params.toList args.toList ds p := hA0
  rw [Try.params9] at hA hval
  obtain ⟨v0, vs0, d0, ds0, p0, q0, hargs, rfl, rfl, h0, r0⟩ := trodAll_cons hA
  obtain ⟨v1, vs1, d1, ds1, p1, q1, rfl, rfl, rfl, h1, r1⟩ := trodAll_cons r0
  obtain ⟨v2, vs2, d2, ds2, p2, q2, rfl, rfl, rfl, h2, r2⟩ := trodAll_cons r1
  obtain ⟨rfl, rfl, rfl⟩ := trodAll_nil r2
  obtain rfl : args = #[v0, v1, v2] := by cases args; simp_all
  obtain ⟨rfl, rfl⟩ := trodVars_none hV
  obtain ⟨mA, mn, mc, m, rfl, m1, m2, mr, mw⟩ := open_mat Try.underlying22 Try.underlying27 Try.underlying3 (by kernel_rfl) (by kernel_rfl) (hval 0 22 v0 rfl rfl) h0
  obtain ⟨a, rfl, a0, a1⟩ := open_i64 Try.underlying3 (hval 1 3 v1 rfl rfl) h1
  obtain ⟨b, rfl, b0, b1⟩ := open_i64 Try.underlying3 (hval 2 3 v2 rfl rfl) h2
  refine (assignRows_any W mA mn mc m m1 m2 mr mw a ⟨a0, a1⟩ b ⟨b0, b1⟩).mono fun e W' ⟨he, hb⟩ => ?_
  subst he
  exact ⟨_, rfl, law_post laidOut_assignRows (by kernel_rfl) rfl rfl Try.underlying4 hW' rfl hb⟩

theorem assignRows_holds : Rows.AssignRowsSaid :=
  OpenClaim.holds_of_wide 9 Try.f9 rfl rfl rfl rfl rfl rfl rfl ⟨rfl, rfl, rfl, rfl, rfl⟩ rfl rfl rfl rfl rfl (by kernel_rfl) Try.func9 (by kernel_rfl)
    (of_decide_eq_true (by kernel_rfl)) (by unfold Func.isWrapper; rw [if_neg (by decide +kernel)]; exact ⟨rfl, rfl⟩)
    (fun os started H enc _ => assignRows_lifted os started H enc)
#print axioms assignRows_holds
end Go.Proofs.Ytgmefnddbiofkaa
