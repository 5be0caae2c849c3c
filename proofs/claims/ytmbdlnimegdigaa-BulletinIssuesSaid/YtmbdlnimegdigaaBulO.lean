/-
  The comparison of lists of bulletins of chapter 49, walked (where they are equal).
-/
import Derived.Test.YtmbdlnimegdigaaBulC
import Derived.Test.YtmbdlnimegdigaaRegA
namespace Go.Proofs.Ytmbdlnimegdigaa
open Go.RowKit

set_option maxRecDepth 100000 in
set_option maxHeartbeats 4000000 in
theorem one_any (b : Bu) (A A' : Option Addr) (n c c' : Nat) (w : World) (hr : Ints w w.heap.size A n b.zs) (hr' : Ints w w.heap.size A' n b.zs) (hn : n ≤ maxLen) :
    Calls Try.prog 29 #[.agg #[.int .i64 b.ver, .int .i64 b.fr, .int .i64 b.ti, .int .i64 b.lo, .int .i64 b.hi, .slice A n c, .int .i64 b.lev], .agg #[.int .i64 b.ver, .int .i64 b.fr, .int .i64 b.ti, .int .i64 b.lo, .int .i64 b.hi, .slice A' n c', .int .i64 b.lev]] w
      fun e w' => e = .returned (.bool true) ∧ Below w.heap.size w w' := by
  unfold maxLen at hn
  have HR := Lib.hid hr
  have HR' := Lib.hid hr'
  have HL := Lib.hid hr.ilen
  clear hr hr'
  obtain ⟨ver, fr, ti, lo, hi, lev, zs⟩ := b
  go_enter Try.func29, Try.ntmps29
  go_wp2_with
    (first
     | (refine wpList_box_blk rfl 31 (.tmp 0) rfl #[.int .i64 ver, .int .i64 fr, .int .i64 ti, .int .i64 lo, .int .i64 hi, .slice A n c, .int .i64 lev] rfl ?_
        intro wa hxa hba hsa
        have HXa := Lib.hid hxa
        have HBa := Lib.hid hba
        have hla : w.heap.size < wa.heap.size := hxa.lt
        clear hxa hba hsa)
     | (refine wpList_box_blk rfl 31 (.tmp 1) rfl #[.int .i64 ver, .int .i64 fr, .int .i64 ti, .int .i64 lo, .int .i64 hi, .slice A' n c', .int .i64 lev] rfl ?_
        intro wb hxb hbb hsb
        have HYb := Lib.hid hxb
        have HBb := Lib.hid (HBa.out.trans (hbb.mono HBa.out.size))
        have HXb := Lib.hid (HXa.out.below hbb hla)
        have e0 : wb.cell? ⟨w.heap.size, 0, none⟩ = some (.int .i64 ver) := HXb.out.cell 0
        have e1 : wb.cell? ⟨w.heap.size, 1, none⟩ = some (.int .i64 fr) := HXb.out.cell 1
        have e2 : wb.cell? ⟨w.heap.size, 2, none⟩ = some (.int .i64 ti) := HXb.out.cell 2
        have e3 : wb.cell? ⟨w.heap.size, 3, none⟩ = some (.int .i64 lo) := HXb.out.cell 3
        have e4 : wb.cell? ⟨w.heap.size, 4, none⟩ = some (.int .i64 hi) := HXb.out.cell 4
        have e5 : wb.cell? ⟨w.heap.size, 5, none⟩ = some (.slice A n c) := HXb.out.cell 5
        have e6 : wb.cell? ⟨w.heap.size, 6, none⟩ = some (.int .i64 lev) := HXb.out.cell 6
        have f0 : wb.cell? ⟨wa.heap.size, 0, none⟩ = some (.int .i64 ver) := HYb.out.cell 0
        have f1 : wb.cell? ⟨wa.heap.size, 1, none⟩ = some (.int .i64 fr) := HYb.out.cell 1
        have f2 : wb.cell? ⟨wa.heap.size, 2, none⟩ = some (.int .i64 ti) := HYb.out.cell 2
        have f3 : wb.cell? ⟨wa.heap.size, 3, none⟩ = some (.int .i64 lo) := HYb.out.cell 3
        have f4 : wb.cell? ⟨wa.heap.size, 4, none⟩ = some (.int .i64 hi) := HYb.out.cell 4
        have f5 : wb.cell? ⟨wa.heap.size, 5, none⟩ = some (.slice A' n c') := HYb.out.cell 5
        have f6 : wb.cell? ⟨wa.heap.size, 6, none⟩ = some (.int .i64 lev) := HYb.out.cell 6
        clear hxb hbb hsb))
  go_loopw [5] (fun i wr => ∃ k : Nat, k ≤ n ∧ i = .int .i64 k ∧ Drew wb wr) (fun i _ => n - (intOf i).toNat)
  case atStart => exact ⟨0, by omega, rfl, Drew.refl _⟩
  case round =>
    obtain ⟨k, hk, rfl, hdr⟩ := hrel
    obtain ⟨wo, rfl⟩ : ∃ wo : World, wo = wr := ⟨_, rfl⟩
    have HRo : Hid (Ints wo w.heap.size A n zs) := by obtain ⟨nq0, rfl⟩ := hdr; exact (HR.out.below HBb.out).drewN nq0
    have HRo' : Hid (Ints wo w.heap.size A' n zs) := by obtain ⟨nq0, rfl⟩ := hdr; exact (HR'.out.below HBb.out).drewN nq0
    have HXo : Hid (Blk wo w.heap.size 31 #[.int .i64 ver, .int .i64 fr, .int .i64 ti, .int .i64 lo, .int .i64 hi, .slice A n c, .int .i64 lev]) := by obtain ⟨nq0, rfl⟩ := hdr; exact HXb.out
    have HYo : Hid (Blk wo wa.heap.size 31 #[.int .i64 ver, .int .i64 fr, .int .i64 ti, .int .i64 lo, .int .i64 hi, .slice A' n c', .int .i64 lev]) := by obtain ⟨nq0, rfl⟩ := hdr; exact HYb.out
    have HD := Lib.hid hdr
    clear hdr e0 e1 e2 e3 e4 e5 e6 f0 f1 f2 f3 f4 f5 f6
    have e5 : wo.cell? ⟨w.heap.size, 5, none⟩ = some (.slice A n c) := HXo.out.cell 5
    have f5 : wo.cell? ⟨wa.heap.size, 5, none⟩ = some (.slice A' n c') := HYo.out.cell 5
    by_cases hlt : k < n
    · obtain ⟨ad, rfl, _, hc⟩ := HRo.out.int hlt
      obtain ⟨ad', rfl, _, hc'⟩ := HRo'.out.int hlt
      generalize zs.getD k 0 = x at *
      go_wp2_with fail
      go_quiet (fail)
      go_wp2_with fail
      go_roundw
      case rel => exact ⟨k + 1, by omega, by go_num, HD.out.trans ⟨nq, rfl⟩⟩
      case measure => simp [intOf]; omega
    · obtain rfl : k = n := by omega
      go_wp2_with fail
      go_ret
      exact ⟨rfl, HBb.out.trans (HD.out.below _)⟩

set_option maxRecDepth 100000 in
set_option maxHeartbeats 4000000 in
theorem same_any (A A' : Option Addr) (n c c' : Nat) (bs : List Bu) (w : World) (hr : Buls w w.heap.size A n bs) (hr' : Buls w w.heap.size A' n bs) (hn : n ≤ maxLen) :
    Calls Try.prog 16 #[.slice A n c, .slice A' n c'] w fun e w' => e = .returned (.bool true) ∧ Below w.heap.size w w' := by
  unfold maxLen at hn
  have HR := Lib.hid hr
  have HR' := Lib.hid hr'
  clear hr hr'
  go_enter Try.func16, Try.ntmps16
  go_wp2_with fail
  go_loopw [5] (fun i wr => ∃ k : Nat, k ≤ n ∧ i = .int .i64 k ∧ Below w.heap.size w wr) (fun i _ => n - (intOf i).toNat)
  case atStart => exact ⟨0, by omega, rfl, Below.refl _ _⟩
  case round =>
    obtain ⟨k, hk, rfl, hbr⟩ := hrel
    obtain ⟨wo, rfl⟩ : ∃ wo : World, wo = wr := ⟨_, rfl⟩
    have HB := Lib.hid hbr
    have hsz := hbr.size
    clear hbr
    by_cases hlt : k < n
    · obtain ⟨ad, z, rfl, hab, hcs, hrow⟩ := (HR.out.below HB.out).at_ hlt
      obtain ⟨ad', z', rfl, hab', hcs', hrow'⟩ := (HR'.out.below HB.out).at_ hlt
      generalize bs.getD k ⟨0, 0, 0, 0, 0, 0, []⟩ = b at *
      obtain ⟨A2, c2, rfl, hz1, hz2, hzr⟩ := hrow
      obtain ⟨A3, c3, rfl, hz1', hz2', hzr'⟩ := hrow'
      obtain ⟨n2, hn2⟩ : ∃ n2, b.zs.length = n2 := ⟨_, rfl⟩
      rw [hn2] at hz1 hz1' hzr hzr' hcs hcs'
      have HOne : Hid (∀ W : World, Below w.heap.size wo W → Calls Try.prog 29 #[.agg #[.int .i64 b.ver, .int .i64 b.fr, .int .i64 b.ti, .int .i64 b.lo, .int .i64 b.hi, .slice A2 n2 c2, .int .i64 b.lev], .agg #[.int .i64 b.ver, .int .i64 b.fr, .int .i64 b.ti, .int .i64 b.lo, .int .i64 b.hi, .slice A3 n2 c3, .int .i64 b.lev]] W
          fun e w' => e = .returned (.bool true) ∧ Below W.heap.size W w') := fun W hW => one_any b A2 A3 n2 c2 c3 W ((hzr.below hW).more (Nat.le_trans hsz hW.size)) ((hzr'.below hW).more (Nat.le_trans hsz hW.size)) (Nat.le_trans hz1 hz2)
      have HCs : Hid (∀ j u, ([.int .i64 b.ver, .int .i64 b.fr, .int .i64 b.ti, .int .i64 b.lo, .int .i64 b.hi, .slice A2 n2 c2, .int .i64 b.lev] : List Value)[j]? = some u → wo.cell? ((ad.add (k * 7)).add j) = some u) := hcs
      have HCs' : Hid (∀ j u, ([.int .i64 b.ver, .int .i64 b.fr, .int .i64 b.ti, .int .i64 b.lo, .int .i64 b.hi, .slice A3 n2 c3, .int .i64 b.lev] : List Value)[j]? = some u → wo.cell? ((ad'.add (k * 7)).add j) = some u) := hcs'
      clear hcs hcs' hzr hzr' hn2
      obtain ⟨ver, fr, ti, lo, hi, lev, zs⟩ := b
      go_wp2_with fail
      have hd0 := HCs.out
      have hd1 := HCs'.out
      refine wp_region_held_drew (S := fun W => (∀ j u, ([.int .i64 ver, .int .i64 fr, .int .i64 ti, .int .i64 lo, .int .i64 hi, .slice A2 n2 c2, .int .i64 lev] : List Value)[j]? = some u → W.cell? ((ad.add (k * 7)).add j) = some u) ∧ (∀ j u, ([.int .i64 ver, .int .i64 fr, .int .i64 ti, .int .i64 lo, .int .i64 hi, .slice A3 n2 c3, .int .i64 lev] : List Value)[j]? = some u → W.cell? ((ad'.add (k * 7)).add j) = some u)) (by kernel_rfl) (⟨hd0, hd1⟩) (fun hHeld => ?_)
      refine held_run 0 (some 17) (.move (.tmp 0)) ?v6_1_0 (by rfl) (by kernel_rfl) (by kernel_rfl) (by kernel_rfl) (fun _ _ _ h => h) (fun o ho w hS => ?y6_1_0) (by assumption) ?r6_1_0
      case y6_1_0 => (try dsimp only at hS); unfold execOp; simp only [ho]; go_simp; try with_reducible rfl
      try simp only [Act.put, List.setIfInBounds_toArray, List.set_cons_zero, List.set_cons_succ]
      refine held_run 1 (some 18) (.move (.tmp 5)) ?v6_1_1 (by rfl) (by kernel_rfl) (by kernel_rfl) (by kernel_rfl) (fun _ _ _ h => h) (fun o ho w hS => ?y6_1_1) (by assumption) ?r6_1_1
      case y6_1_1 => (try dsimp only at hS); unfold execOp; simp only [ho]; go_simp; try with_reducible rfl
      try simp only [Act.put, List.setIfInBounds_toArray, List.set_cons_zero, List.set_cons_succ]
      refine held_run 2 (some 19) (.indexAddr 22 (.tmp 17) (.tmp 18)) ?v6_1_2 (by rfl) (by kernel_rfl) (by kernel_rfl) (by kernel_rfl) (fun _ _ _ h => h) (fun o ho w hS => ?y6_1_2) (by assumption) ?r6_1_2
      case y6_1_2 => (try dsimp only at hS); unfold execOp; simp only [ho]; go_simp; try with_reducible rfl
      try simp only [Act.put, List.setIfInBounds_toArray, List.set_cons_zero, List.set_cons_succ]
      refine held_load_at 3 (some 20) 31 (.tmp 19) (by rfl) (by kernel_rfl) (by kernel_rfl) (by kernel_rfl) (ad.add (k * 7)) [.int .i64 ver, .int .i64 fr, .int .i64 ti, .int .i64 lo, .int .i64 hi, .slice A2 n2 c2, .int .i64 lev] (fun _ _ _ h => h) (by rfl) (fun _ h => h.1) _ Try.underlying31 rfl (by kernel_rfl) (by assumption) ?_
      try simp only [Act.put, List.setIfInBounds_toArray, List.set_cons_zero, List.set_cons_succ]
      refine held_run 4 (some 21) (.move (.tmp 1)) ?v6_1_4 (by rfl) (by kernel_rfl) (by kernel_rfl) (by kernel_rfl) (fun _ _ _ h => h) (fun o ho w hS => ?y6_1_4) (by assumption) ?r6_1_4
      case y6_1_4 => (try dsimp only at hS); unfold execOp; simp only [ho]; go_simp; try with_reducible rfl
      try simp only [Act.put, List.setIfInBounds_toArray, List.set_cons_zero, List.set_cons_succ]
      refine held_run 5 (some 22) (.move (.tmp 5)) ?v6_1_5 (by rfl) (by kernel_rfl) (by kernel_rfl) (by kernel_rfl) (fun _ _ _ h => h) (fun o ho w hS => ?y6_1_5) (by assumption) ?r6_1_5
      case y6_1_5 => (try dsimp only at hS); unfold execOp; simp only [ho]; go_simp; try with_reducible rfl
      try simp only [Act.put, List.setIfInBounds_toArray, List.set_cons_zero, List.set_cons_succ]
      refine held_run 6 (some 23) (.indexAddr 22 (.tmp 21) (.tmp 22)) ?v6_1_6 (by rfl) (by kernel_rfl) (by kernel_rfl) (by kernel_rfl) (fun _ _ _ h => h) (fun o ho w hS => ?y6_1_6) (by assumption) ?r6_1_6
      case y6_1_6 => (try dsimp only at hS); unfold execOp; simp only [ho]; go_simp; try with_reducible rfl
      try simp only [Act.put, List.setIfInBounds_toArray, List.set_cons_zero, List.set_cons_succ]
      refine held_load_at 7 (some 24) 31 (.tmp 23) (by rfl) (by kernel_rfl) (by kernel_rfl) (by kernel_rfl) (ad'.add (k * 7)) [.int .i64 ver, .int .i64 fr, .int .i64 ti, .int .i64 lo, .int .i64 hi, .slice A3 n2 c3, .int .i64 lev] (fun _ _ _ h => h) (by rfl) (fun _ h => h.2) _ Try.underlying31 rfl (by kernel_rfl) (by assumption) ?_
      try simp only [Act.put, List.setIfInBounds_toArray, List.set_cons_zero, List.set_cons_succ]
      refine held_call 8 (some 25) 29 [(.tmp 20), (.tmp 24)] #[31, 31] #[.agg #[.int .i64 ver, .int .i64 fr, .int .i64 ti, .int .i64 lo, .int .i64 hi, .slice A2 n2 c2, .int .i64 lev], .agg #[.int .i64 ver, .int .i64 fr, .int .i64 ti, .int .i64 lo, .int .i64 hi, .slice A3 n2 c3, .int .i64 lev]] (by rfl) (by rfl) (by kernel_rfl) Try.func29 (by rfl) (by rfl) ?_
      refine (HOne.out _ ((Below.refl _ _).drew)).mono ?_
      rintro e w2 ⟨rfl, hb2⟩
      have HW2 : Hid (Below wo.heap.size wo w2) := hide ((Below.refl wo.heap.size wo).drew.trans hb2)
      have hH2 : (∀ j u, ([.int .i64 ver, .int .i64 fr, .int .i64 ti, .int .i64 lo, .int .i64 hi, .slice A2 n2 c2, .int .i64 lev] : List Value)[j]? = some u → w2.cell? ((ad.add (k * 7)).add j) = some u) ∧ (∀ j u, ([.int .i64 ver, .int .i64 fr, .int .i64 ti, .int .i64 lo, .int .i64 hi, .slice A3 n2 c3, .int .i64 lev] : List Value)[j]? = some u → w2.cell? ((ad'.add (k * 7)).add j) = some u) := ⟨fun j u hu => (HW2.out.cell (by rw [block_of_add, block_of_add]; omega)).trans (HCs.out j u hu), fun j u hu => (HW2.out.cell (by rw [block_of_add, block_of_add]; omega)).trans (HCs'.out j u hu)⟩
      refine ⟨_, rfl, hH2, ?_⟩
      clear hb2
      try simp only [Act.put, List.setIfInBounds_toArray, List.set_cons_zero, List.set_cons_succ]
      refine held_run 9 (some 26) (.unOp .not 4 (.tmp 25)) ?v6_1_9 (by rfl) (by kernel_rfl) (by kernel_rfl) (by kernel_rfl) (fun _ _ _ h => h) (fun o ho w hS => ?y6_1_9) (by assumption) ?r6_1_9
      case y6_1_9 => (try dsimp only at hS); unfold execOp; simp only [ho]; go_simp; try with_reducible rfl
      try simp only [Act.put, List.setIfInBounds_toArray, List.set_cons_zero, List.set_cons_succ]
      refine wpAnyH_done (by kernel_rfl) ?_ _
      clear hd0 hd1
      go_wp2_with fail
      go_roundw
      case rel => exact ⟨k + 1, by omega, by go_num, HB.out.trans (HW2.out.mono hsz)⟩
      case measure => simp [intOf]; omega
    · obtain rfl : k = n := by omega
      go_wp2_with fail
      go_ret
      exact ⟨rfl, HB.out⟩
end Go.Proofs.Ytmbdlnimegdigaa
