/-
  Right of chapter 49, walked.
-/
import Derived.Test.YtmbdlnimegdigaaBulZ
import Derived.Test.YtmbdlnimegdigaaReg
import Derived.IntWalk
namespace Go.Proofs.Ytmbdlnimegdigaa
open Go.RowKit

def prevV (bs : List Bu) (k : Nat) : Int := (0 :: bs.map Bu.ver).getD k 0
theorem prevV_succ (bs : List Bu) (k : Nat) (h : k < bs.length) : prevV bs (k + 1) = (bs.getD k ⟨0, 0, 0, 0, 0, 0, []⟩).ver := by
  simp [prevV, List.getElem?_eq_getElem h]
theorem rightF_at (bs : List Bu) (p : Int) (k : Nat) (h : k < bs.length) : rightF p (bs.drop k) = if ¬ InR (bs.getD k ⟨0, 0, 0, 0, 0, 0, []⟩) then 2 else if zonesB (bs.getD k ⟨0, 0, 0, 0, 0, 0, []⟩).zs = false then 1 else if (bs.getD k ⟨0, 0, 0, 0, 0, 0, []⟩).ver < p then 11 else rightF (bs.getD k ⟨0, 0, 0, 0, 0, 0, []⟩).ver (bs.drop (k + 1)) := by
  rw [bu_drop bs k h]
  rfl
theorem right_stop {bs : List Bu} {n k : Nat} {p r : Int} (hl : bs.length = n) (hn : n ≤ 64) (hF : rightF 0 bs = rightF p (bs.drop k)) (h : rightF p (bs.drop k) = r) : rightN bs = r := by
  rw [rightN, if_neg (by omega), hF, h]

set_option maxRecDepth 100000 in
set_option maxHeartbeats 2000000 in
theorem right_any (A : Option Addr) (n c : Nat) (bs : List Bu) (w : World) (hr : Buls w w.heap.size A n bs) :
    Calls Try.prog 11 #[.slice A n c] w fun e w' => e = .returned (.int .i64 (rightN bs)) ∧ Below w.heap.size w w' := by
  have HR := Lib.hid hr
  have HL := Lib.hid hr.len
  clear hr
  obtain ⟨r, hrr⟩ : ∃ r, rightN bs = r := ⟨_, rfl⟩
  rw [hrr]
  have HRR := Lib.hid hrr
  clear hrr
  by_cases h64 : 64 < n
  · have HZ : Hid (r = 4) := by show _ = _; rw [← HRR.out, rightN, if_pos (by rw [HL.out]; exact h64)]
    go_enter Try.func11, Try.ntmps11
    go_wp2_with fail
    go_ret
    exact ⟨ret_i HZ.out.symm, Below.refl _ _⟩
  go_enter Try.func11, Try.ntmps11
  go_wp2_with fail
  go_loopw [10] (fun i wr => ∃ k : Nat, k ≤ n ∧ i = .int .i64 k ∧ rightF 0 bs = rightF (prevV bs k) (bs.drop k) ∧ Below w.heap.size w wr) (fun i _ => n - (intOf i).toNat)
  case atStart => exact ⟨0, by omega, rfl, rfl, Below.refl _ _⟩
  case round =>
    obtain ⟨k, hk, rfl, hF, hbr⟩ := hrel
    obtain ⟨wo, rfl⟩ : ∃ wo : World, wo = wr := ⟨_, rfl⟩
    have HF := Lib.hid hF
    have HB := Lib.hid hbr
    have hsz := hbr.size
    clear hF hbr
    by_cases hlt : k < n
    · obtain ⟨ad, z, rfl, hab, hcs, hrow⟩ := (HR.out.below HB.out).at_ hlt
      have HAt := Lib.hid (rightF_at bs (prevV bs k) k (by rw [HL.out]; exact hlt))
      have HPs := Lib.hid (prevV_succ bs k (by rw [HL.out]; exact hlt))
      have HPrev : Hid (∀ k', k = k' + 1 → ∃ p : Int, prevV bs k = p ∧ ∀ W : World, Below w.heap.size wo W → W.cell? (ad.add (k' * 7)) = some (.int .i64 p)) := by
        intro k' hk'
        obtain ⟨ad', z', had, hab', hcs', _⟩ := (HR.out.below HB.out).at_ (show k' < n by omega)
        injection had with had
        subst had
        refine ⟨(bs.getD k' ⟨0, 0, 0, 0, 0, 0, []⟩).ver, by rw [hk', prevV_succ _ _ (by rw [HL.out]; omega)], fun W hW => ?_⟩
        have h := hcs' 0 _ rfl
        rw [show (ad.add (k' * 7)).add 0 = ad.add (k' * 7) by unfold Addr.add; simp] at h
        exact (hW.cell (by rw [block_of_add]; exact hab')).trans h
      generalize bs.getD k ⟨0, 0, 0, 0, 0, 0, []⟩ = b at *
      obtain ⟨ver, fr, ti, lo, hi, lev, zs⟩ := b
      obtain ⟨A2, c2, rfl, hz1, hz2, hzr⟩ := hrow
      obtain ⟨n2, hn2⟩ : ∃ n2, zs.length = n2 := ⟨_, rfl⟩
      rw [hn2] at hz1 hzr hcs
      have HCs := Lib.hid hcs
      have HZr := Lib.hid hzr
      have HM2 := Lib.hid (Nat.le_trans hz1 hz2)
      clear hcs hzr hn2 hz2
      go_wp2_with
        (first
         | (refine wpList_load_at 31 (.tmp 13) rfl rfl (ad.add (k * 7)) rfl [.int .i64 ver, .int .i64 fr, .int .i64 ti, .int .i64 lo, .int .i64 hi, .slice A2 n2 c2, .int .i64 lev] HCs.out _ Try.underlying31 rfl (by kernel_rfl) ?_)
         | (refine wpList_store_blk rfl 31 (.tmp 4) (.tmp 14) rfl wo.heap.size #[.int .i64 ver, .int .i64 fr, .int .i64 ti, .int .i64 lo, .int .i64 hi, .slice A2 n2 c2, .int .i64 lev] rfl rfl _ _ (Blk.new wo 31 #[.int .i64 0, .int .i64 0, .int .i64 0, .int .i64 0, .int .i64 0, .slice none 0 0, .int .i64 0]) (by kernel_rfl) rfl (by simp [Value.oneCell']) ?_
            intro w1 hx1 hon1
            have hb1 := hon1.below (below_new wo (.cells #[.int .i64 0, .int .i64 0, .int .i64 0, .int .i64 0, .int .i64 0, .slice none 0 0, .int .i64 0] 31)) (Nat.le_refl _)
            have HB1 := Lib.hid hb1
            have HX1 := Lib.hid hx1
            have hl1 : wo.heap.size < w1.heap.size := hx1.lt
            clear hx1 hon1 hb1)
         | (refine wpList_load_g 31 (.tmp 4) rfl rfl wo.heap.size rfl _ _ HX1.out _ Try.underlying31 rfl (by kernel_rfl) ?_))
      refine (inrange_any ⟨ver, fr, ti, lo, hi, lev, zs⟩ (.slice A2 n2 c2) rfl _).mono ?_
      rintro e w2 ⟨r1, rfl, hr1, hb2⟩
      have HB2 := Lib.hid (HB1.out.trans (hb2.mono HB1.out.size))
      have HX2 := Lib.hid (HX1.out.below hb2 hl1)
      have hl2 : wo.heap.size < w2.heap.size := Nat.lt_of_lt_of_le hl1 hb2.size
      have HBB2 := Lib.hid (HB.out.trans (HB2.out.mono hsz))
      clear hb2
      have HStop : Hid (∀ q : Int, rightF (prevV bs k) (bs.drop k) = q → q = r) := fun q hq => by
        rw [← HRR.out, right_stop HL.out (by omega) HF.out hq]
      cases r1 with
      | false =>
        have hno : ¬ InR ⟨ver, fr, ti, lo, hi, lev, zs⟩ := fun h => by have := hr1.2 h; cases this
        have HZ := Lib.hid (HStop.out 2 (HAt.out.trans (if_pos hno)))
        clear hno hr1
        go_wp2_with fail
        go_ret
        exact ⟨ret_i HZ.out, HBB2.out⟩
      | true =>
      have HIn := Lib.hid (hr1.1 rfl)
      clear hr1
      have HZr2 := Lib.hid (HZr.out.below (HB2.out.mono hsz))
      have e0 : w2.cell? ⟨wo.heap.size, 0, none⟩ = some (.int .i64 ver) := HX2.out.cell 0
      have e1 : w2.cell? ⟨wo.heap.size, 1, none⟩ = some (.int .i64 fr) := HX2.out.cell 1
      have e2 : w2.cell? ⟨wo.heap.size, 2, none⟩ = some (.int .i64 ti) := HX2.out.cell 2
      have e3 : w2.cell? ⟨wo.heap.size, 3, none⟩ = some (.int .i64 lo) := HX2.out.cell 3
      have e4 : w2.cell? ⟨wo.heap.size, 4, none⟩ = some (.int .i64 hi) := HX2.out.cell 4
      have e5 : w2.cell? ⟨wo.heap.size, 5, none⟩ = some (.slice A2 n2 c2) := HX2.out.cell 5
      have e6 : w2.cell? ⟨wo.heap.size, 6, none⟩ = some (.int .i64 lev) := HX2.out.cell 6
      go_wp2_with fail
      cases hzb : zonesB zs with
      | false =>
        have HZb := Lib.hid hzb
        have HZ := Lib.hid (HStop.out 1 (HAt.out.trans ((if_neg (not_not_intro HIn.out)).trans (if_pos hzb))))
        clear hzb
        with_reducible refine (zones_any _ _ _ _ zs false _ HZr2.out HM2.out HZb.out).mono ?_
        rintro e w' ⟨rfl, rfl⟩
        go_wp2_with fail
        go_ret
        exact ⟨ret_i HZ.out, HBB2.out⟩
      | true =>
      have HZb := Lib.hid hzb
      clear hzb
      with_reducible refine (zones_any _ _ _ _ zs true _ HZr2.out HM2.out HZb.out).mono ?_
      rintro e w' ⟨rfl, rfl⟩
      have HGo : Hid (rightF (prevV bs k) (bs.drop k) = if ver < prevV bs k then 11 else rightF ver (bs.drop (k + 1))) := hide (HAt.out.trans ((if_neg (not_not_intro HIn.out)).trans (if_neg (by rw [HZb.out]; simp))))
      have hver : 1 ≤ ver := HIn.out.1
      go_wp2_with fail
      rcases Nat.eq_zero_or_pos k with hk0 | hk0
      · subst hk0
        have HS : Hid (rightF 0 bs = rightF ver (bs.drop 1)) := hide (HF.out.trans (HGo.out.trans (if_neg (by simp [prevV]; omega))))
        refine wp_region_held_drew (S := fun _ => True) (by kernel_rfl) (trivial) (fun hHeld => ?_)
        refine held_run 0 (some 22) (.move (.tmp 3)) ?v10_1_0 (by rfl) (by kernel_rfl) (by kernel_rfl) (by kernel_rfl) (fun _ _ _ h => h) (fun o ho w hS => ?y10_1_0) (by assumption) ?r10_1_0
        case y10_1_0 => (try dsimp only at hS); unfold execOp; simp only [ho]; go_simp; try with_reducible rfl
        try simp only [Act.put, List.setIfInBounds_toArray, List.set_cons_zero, List.set_cons_succ]
        refine held_run 1 (some 23) (.binOp .gtr 3 (.tmp 22) (.const (.int .i64 0)) 3) ?v10_1_1 (by rfl) (by kernel_rfl) (by kernel_rfl) (by kernel_rfl) (fun _ _ _ h => h) (fun o ho w hS => ?y10_1_1) (by assumption) ?r10_1_1
        case y10_1_1 => (try dsimp only at hS); unfold execOp; simp only [ho]; go_simp; try with_reducible rfl
        try simp only [Act.put, List.setIfInBounds_toArray, List.set_cons_zero, List.set_cons_succ]
        refine held_run 2 (some 24) (.move (.tmp 23)) ?v10_1_2 (by rfl) (by kernel_rfl) (by kernel_rfl) (by kernel_rfl) (fun _ _ _ h => h) (fun o ho w hS => ?y10_1_2) (by assumption) ?r10_1_2
        case y10_1_2 => (try dsimp only at hS); unfold execOp; simp only [ho]; go_simp; try with_reducible rfl
        try simp only [Act.put, List.setIfInBounds_toArray, List.set_cons_zero, List.set_cons_succ]
        refine held_skip 3 (some 25) (by rfl) (by kernel_rfl) (by kernel_rfl) (by kernel_rfl) (fun _ _ _ h => h) (by assumption) ?_
        try simp only [Act.put, List.setIfInBounds_toArray, List.set_cons_zero, List.set_cons_succ]
        refine held_skip 4 (some 26) (by rfl) (by kernel_rfl) (by kernel_rfl) (by kernel_rfl) (fun _ _ _ h => h) (by assumption) ?_
        try simp only [Act.put, List.setIfInBounds_toArray, List.set_cons_zero, List.set_cons_succ]
        refine held_skip 5 (some 27) (by rfl) (by kernel_rfl) (by kernel_rfl) (by kernel_rfl) (fun _ _ _ h => h) (by assumption) ?_
        try simp only [Act.put, List.setIfInBounds_toArray, List.set_cons_zero, List.set_cons_succ]
        refine held_skip 6 (some 28) (by rfl) (by kernel_rfl) (by kernel_rfl) (by kernel_rfl) (fun _ _ _ h => h) (by assumption) ?_
        try simp only [Act.put, List.setIfInBounds_toArray, List.set_cons_zero, List.set_cons_succ]
        refine held_skip 7 (some 29) (by rfl) (by kernel_rfl) (by kernel_rfl) (by kernel_rfl) (fun _ _ _ h => h) (by assumption) ?_
        try simp only [Act.put, List.setIfInBounds_toArray, List.set_cons_zero, List.set_cons_succ]
        refine held_skip 8 (some 30) (by rfl) (by kernel_rfl) (by kernel_rfl) (by kernel_rfl) (fun _ _ _ h => h) (by assumption) ?_
        try simp only [Act.put, List.setIfInBounds_toArray, List.set_cons_zero, List.set_cons_succ]
        refine held_skip 9 (some 31) (by rfl) (by kernel_rfl) (by kernel_rfl) (by kernel_rfl) (fun _ _ _ h => h) (by assumption) ?_
        try simp only [Act.put, List.setIfInBounds_toArray, List.set_cons_zero, List.set_cons_succ]
        refine held_skip 10 (some 32) (by rfl) (by kernel_rfl) (by kernel_rfl) (by kernel_rfl) (fun _ _ _ h => h) (by assumption) ?_
        try simp only [Act.put, List.setIfInBounds_toArray, List.set_cons_zero, List.set_cons_succ]
        refine held_skip 11 (some 33) (by rfl) (by kernel_rfl) (by kernel_rfl) (by kernel_rfl) (fun _ _ _ h => h) (by assumption) ?_
        try simp only [Act.put, List.setIfInBounds_toArray, List.set_cons_zero, List.set_cons_succ]
        refine held_run 12 (some 34) (.pick (.tmp 24) (.tmp 33) (.const (Value.bool false))) ?v10_1_12 (by rfl) (by kernel_rfl) (by kernel_rfl) (by kernel_rfl) (fun _ _ _ h => h) (fun o ho w hS => ?y10_1_12) (by assumption) ?r10_1_12
        case y10_1_12 => (try dsimp only at hS); unfold execOp; simp only [ho]; go_simp; try with_reducible rfl
        try simp only [Act.put, List.setIfInBounds_toArray, List.set_cons_zero, List.set_cons_succ]
        refine wpAnyH_done (by kernel_rfl) ?_ _
        go_wp2_with fail
        go_roundw
        case rel => exact ⟨1, by omega, by go_num, by rw [HPs.out]; exact HS.out, below_drewN HBB2.out 1⟩
        case measure => simp [intOf]; omega
      · obtain ⟨k', hk'⟩ : ∃ k', k = k' + 1 := ⟨k - 1, by omega⟩
        obtain ⟨p, hp, hcp'⟩ := HPrev.out k' hk'
        have hcp := hcp' w2 (HB2.out.mono hsz)
        have hj : (k : Int) - 1 = (k' : Int) := by omega
        have hkn : k' < n := by omega
        have dk : decide (0 < k) = true := by simpa using hk0
        have HF2 : Hid (rightF 0 bs = rightF p (bs.drop k)) := by rw [← hp]; exact HF.out
        rw [hp] at HGo HStop
        clear hcp' hp hk'
        by_cases h3 : ver < p
        · have HZ := Lib.hid (HStop.out 11 (HGo.out.trans (if_pos h3)))
          have hwr : IntKind.i64.wrap (k' : Int) = (k' : Int) := IntWalk.i64_in _ (by omega)
          refine wp_region_held_drew (S := fun W => W.cell? ⟨wo.heap.size, 0, none⟩ = some (.int .i64 ver) ∧ W.cell? (ad.add (k' * 7)) = some (.int .i64 p)) (by kernel_rfl) (⟨e0, hcp⟩) (fun hHeld => ?_)
          refine held_run 0 (some 22) (.move (.tmp 3)) ?v10_2_0 (by rfl) (by kernel_rfl) (by kernel_rfl) (by kernel_rfl) (fun _ _ _ h => h) (fun o ho w hS => ?y10_2_0) (by assumption) ?r10_2_0
          case y10_2_0 => (try dsimp only at hS); unfold execOp; simp only [ho]; go_simp; try with_reducible rfl
          try simp only [Act.put, List.setIfInBounds_toArray, List.set_cons_zero, List.set_cons_succ]
          refine held_run 1 (some 23) (.binOp .gtr 3 (.tmp 22) (.const (.int .i64 0)) 3) ?v10_2_1 (by rfl) (by kernel_rfl) (by kernel_rfl) (by kernel_rfl) (fun _ _ _ h => h) (fun o ho w hS => ?y10_2_1) (by assumption) ?r10_2_1
          case y10_2_1 => (try dsimp only at hS); unfold execOp; simp only [ho]; go_simp; try with_reducible rfl
          try simp only [Act.put, List.setIfInBounds_toArray, List.set_cons_zero, List.set_cons_succ]
          refine held_run 2 (some 24) (.move (.tmp 23)) ?v10_2_2 (by rfl) (by kernel_rfl) (by kernel_rfl) (by kernel_rfl) (fun _ _ _ h => h) (fun o ho w hS => ?y10_2_2) (by assumption) ?r10_2_2
          case y10_2_2 => (try dsimp only at hS); unfold execOp; simp only [ho]; go_simp; try with_reducible rfl
          try simp only [Act.put, List.setIfInBounds_toArray, List.set_cons_zero, List.set_cons_succ]
          refine held_run 3 (some 25) (.fieldAddr 31 (.tmp 4) 0) ?v10_2_3 (by rfl) (by kernel_rfl) (by kernel_rfl) (by kernel_rfl) (fun _ _ _ h => h) (fun o ho w hS => ?y10_2_3) (by assumption) ?r10_2_3
          case y10_2_3 => (try dsimp only at hS); unfold execOp; simp only [ho]; go_simp; try with_reducible rfl
          try simp only [Act.put, List.setIfInBounds_toArray, List.set_cons_zero, List.set_cons_succ]
          refine held_run 4 (some 26) (.load 3 (.tmp 25)) ?v10_2_4 (by rfl) (by kernel_rfl) (by kernel_rfl) (by kernel_rfl) (fun _ _ _ h => h) (fun o ho w hS => ?y10_2_4) (by assumption) ?r10_2_4
          case y10_2_4 => (try dsimp only at hS); unfold execOp; simp only [ho]; go_simp; try with_reducible rfl
          try simp only [Act.put, List.setIfInBounds_toArray, List.set_cons_zero, List.set_cons_succ]
          refine held_run 5 (some 27) (.move (.tmp 0)) ?v10_2_5 (by rfl) (by kernel_rfl) (by kernel_rfl) (by kernel_rfl) (fun _ _ _ h => h) (fun o ho w hS => ?y10_2_5) (by assumption) ?r10_2_5
          case y10_2_5 => (try dsimp only at hS); unfold execOp; simp only [ho]; go_simp; try with_reducible rfl
          try simp only [Act.put, List.setIfInBounds_toArray, List.set_cons_zero, List.set_cons_succ]
          refine held_run 6 (some 28) (.move (.tmp 3)) ?v10_2_6 (by rfl) (by kernel_rfl) (by kernel_rfl) (by kernel_rfl) (fun _ _ _ h => h) (fun o ho w hS => ?y10_2_6) (by assumption) ?r10_2_6
          case y10_2_6 => (try dsimp only at hS); unfold execOp; simp only [ho]; go_simp; try with_reducible rfl
          try simp only [Act.put, List.setIfInBounds_toArray, List.set_cons_zero, List.set_cons_succ]
          refine held_run 7 (some 29) (.binOp .sub 3 (.tmp 28) (.const (.int .i64 1)) 3) ?v10_2_7 (by rfl) (by kernel_rfl) (by kernel_rfl) (by kernel_rfl) (fun _ _ _ h => h) (fun o ho w hS => ?y10_2_7) (by assumption) ?r10_2_7
          case y10_2_7 => (try dsimp only at hS); unfold execOp; simp only [ho]; go_simp; try with_reducible rfl
          try simp only [Act.put, List.setIfInBounds_toArray, List.set_cons_zero, List.set_cons_succ]
          refine held_run 8 (some 30) (.indexAddr 22 (.tmp 27) (.tmp 29)) ?v10_2_8 (by rfl) (by kernel_rfl) (by kernel_rfl) (by kernel_rfl) (fun _ _ _ h => h) (fun o ho w hS => ?y10_2_8) (by assumption) ?r10_2_8
          case y10_2_8 => (try dsimp only at hS); unfold execOp; simp only [ho]; go_simp; try with_reducible rfl
          try simp only [Act.put, List.setIfInBounds_toArray, List.set_cons_zero, List.set_cons_succ]
          refine held_run 9 (some 31) (.fieldAddr 31 (.tmp 30) 0) ?v10_2_9 (by rfl) (by kernel_rfl) (by kernel_rfl) (by kernel_rfl) (fun _ _ _ h => h) (fun o ho w hS => ?y10_2_9) (by assumption) ?r10_2_9
          case y10_2_9 => (try dsimp only at hS); unfold execOp; simp only [ho]; go_simp; try with_reducible rfl
          try simp only [Act.put, List.setIfInBounds_toArray, List.set_cons_zero, List.set_cons_succ]
          refine held_run 10 (some 32) (.load 3 (.tmp 31)) ?v10_2_10 (by rfl) (by kernel_rfl) (by kernel_rfl) (by kernel_rfl) (fun _ _ _ h => h) (fun o ho w hS => ?y10_2_10) (by assumption) ?r10_2_10
          case y10_2_10 => (try dsimp only at hS); unfold execOp; simp only [ho]; go_simp; try with_reducible rfl
          try simp only [Act.put, List.setIfInBounds_toArray, List.set_cons_zero, List.set_cons_succ]
          refine held_run 11 (some 33) (.binOp .lss 3 (.tmp 26) (.tmp 32) 3) ?v10_2_11 (by rfl) (by kernel_rfl) (by kernel_rfl) (by kernel_rfl) (fun _ _ _ h => h) (fun o ho w hS => ?y10_2_11) (by assumption) ?r10_2_11
          case y10_2_11 => (try dsimp only at hS); unfold execOp; simp only [ho]; go_simp; try with_reducible rfl
          try simp only [Act.put, List.setIfInBounds_toArray, List.set_cons_zero, List.set_cons_succ]
          refine held_run 12 (some 34) (.pick (.tmp 24) (.tmp 33) (.const (Value.bool false))) ?v10_2_12 (by rfl) (by kernel_rfl) (by kernel_rfl) (by kernel_rfl) (fun _ _ _ h => h) (fun o ho w hS => ?y10_2_12) (by assumption) ?r10_2_12
          case y10_2_12 => (try dsimp only at hS); unfold execOp; simp only [ho]; go_simp; try with_reducible rfl
          try simp only [Act.put, List.setIfInBounds_toArray, List.set_cons_zero, List.set_cons_succ]
          refine wpAnyH_done (by kernel_rfl) ?_ _
          clear hwr
          go_wp2_with fail
          go_ret
          exact ⟨ret_i HZ.out, below_drewN HBB2.out 1⟩
        · have HS : Hid (rightF 0 bs = rightF ver (bs.drop (k + 1))) := by
            show _ = _
            rw [HF2.out]
            exact HGo.out.trans (if_neg h3)
          have d3 : decide (ver < p) = false := by simpa using h3
          have hwr : IntKind.i64.wrap (k' : Int) = (k' : Int) := IntWalk.i64_in _ (by omega)
          refine wp_region_held_drew (S := fun W => W.cell? ⟨wo.heap.size, 0, none⟩ = some (.int .i64 ver) ∧ W.cell? (ad.add (k' * 7)) = some (.int .i64 p)) (by kernel_rfl) (⟨e0, hcp⟩) (fun hHeld => ?_)
          refine held_run 0 (some 22) (.move (.tmp 3)) ?v10_3_0 (by rfl) (by kernel_rfl) (by kernel_rfl) (by kernel_rfl) (fun _ _ _ h => h) (fun o ho w hS => ?y10_3_0) (by assumption) ?r10_3_0
          case y10_3_0 => (try dsimp only at hS); unfold execOp; simp only [ho]; go_simp; try with_reducible rfl
          try simp only [Act.put, List.setIfInBounds_toArray, List.set_cons_zero, List.set_cons_succ]
          refine held_run 1 (some 23) (.binOp .gtr 3 (.tmp 22) (.const (.int .i64 0)) 3) ?v10_3_1 (by rfl) (by kernel_rfl) (by kernel_rfl) (by kernel_rfl) (fun _ _ _ h => h) (fun o ho w hS => ?y10_3_1) (by assumption) ?r10_3_1
          case y10_3_1 => (try dsimp only at hS); unfold execOp; simp only [ho]; go_simp; try with_reducible rfl
          try simp only [Act.put, List.setIfInBounds_toArray, List.set_cons_zero, List.set_cons_succ]
          refine held_run 2 (some 24) (.move (.tmp 23)) ?v10_3_2 (by rfl) (by kernel_rfl) (by kernel_rfl) (by kernel_rfl) (fun _ _ _ h => h) (fun o ho w hS => ?y10_3_2) (by assumption) ?r10_3_2
          case y10_3_2 => (try dsimp only at hS); unfold execOp; simp only [ho]; go_simp; try with_reducible rfl
          try simp only [Act.put, List.setIfInBounds_toArray, List.set_cons_zero, List.set_cons_succ]
          refine held_run 3 (some 25) (.fieldAddr 31 (.tmp 4) 0) ?v10_3_3 (by rfl) (by kernel_rfl) (by kernel_rfl) (by kernel_rfl) (fun _ _ _ h => h) (fun o ho w hS => ?y10_3_3) (by assumption) ?r10_3_3
          case y10_3_3 => (try dsimp only at hS); unfold execOp; simp only [ho]; go_simp; try with_reducible rfl
          try simp only [Act.put, List.setIfInBounds_toArray, List.set_cons_zero, List.set_cons_succ]
          refine held_run 4 (some 26) (.load 3 (.tmp 25)) ?v10_3_4 (by rfl) (by kernel_rfl) (by kernel_rfl) (by kernel_rfl) (fun _ _ _ h => h) (fun o ho w hS => ?y10_3_4) (by assumption) ?r10_3_4
          case y10_3_4 => (try dsimp only at hS); unfold execOp; simp only [ho]; go_simp; try with_reducible rfl
          try simp only [Act.put, List.setIfInBounds_toArray, List.set_cons_zero, List.set_cons_succ]
          refine held_run 5 (some 27) (.move (.tmp 0)) ?v10_3_5 (by rfl) (by kernel_rfl) (by kernel_rfl) (by kernel_rfl) (fun _ _ _ h => h) (fun o ho w hS => ?y10_3_5) (by assumption) ?r10_3_5
          case y10_3_5 => (try dsimp only at hS); unfold execOp; simp only [ho]; go_simp; try with_reducible rfl
          try simp only [Act.put, List.setIfInBounds_toArray, List.set_cons_zero, List.set_cons_succ]
          refine held_run 6 (some 28) (.move (.tmp 3)) ?v10_3_6 (by rfl) (by kernel_rfl) (by kernel_rfl) (by kernel_rfl) (fun _ _ _ h => h) (fun o ho w hS => ?y10_3_6) (by assumption) ?r10_3_6
          case y10_3_6 => (try dsimp only at hS); unfold execOp; simp only [ho]; go_simp; try with_reducible rfl
          try simp only [Act.put, List.setIfInBounds_toArray, List.set_cons_zero, List.set_cons_succ]
          refine held_run 7 (some 29) (.binOp .sub 3 (.tmp 28) (.const (.int .i64 1)) 3) ?v10_3_7 (by rfl) (by kernel_rfl) (by kernel_rfl) (by kernel_rfl) (fun _ _ _ h => h) (fun o ho w hS => ?y10_3_7) (by assumption) ?r10_3_7
          case y10_3_7 => (try dsimp only at hS); unfold execOp; simp only [ho]; go_simp; try with_reducible rfl
          try simp only [Act.put, List.setIfInBounds_toArray, List.set_cons_zero, List.set_cons_succ]
          refine held_run 8 (some 30) (.indexAddr 22 (.tmp 27) (.tmp 29)) ?v10_3_8 (by rfl) (by kernel_rfl) (by kernel_rfl) (by kernel_rfl) (fun _ _ _ h => h) (fun o ho w hS => ?y10_3_8) (by assumption) ?r10_3_8
          case y10_3_8 => (try dsimp only at hS); unfold execOp; simp only [ho]; go_simp; try with_reducible rfl
          try simp only [Act.put, List.setIfInBounds_toArray, List.set_cons_zero, List.set_cons_succ]
          refine held_run 9 (some 31) (.fieldAddr 31 (.tmp 30) 0) ?v10_3_9 (by rfl) (by kernel_rfl) (by kernel_rfl) (by kernel_rfl) (fun _ _ _ h => h) (fun o ho w hS => ?y10_3_9) (by assumption) ?r10_3_9
          case y10_3_9 => (try dsimp only at hS); unfold execOp; simp only [ho]; go_simp; try with_reducible rfl
          try simp only [Act.put, List.setIfInBounds_toArray, List.set_cons_zero, List.set_cons_succ]
          refine held_run 10 (some 32) (.load 3 (.tmp 31)) ?v10_3_10 (by rfl) (by kernel_rfl) (by kernel_rfl) (by kernel_rfl) (fun _ _ _ h => h) (fun o ho w hS => ?y10_3_10) (by assumption) ?r10_3_10
          case y10_3_10 => (try dsimp only at hS); unfold execOp; simp only [ho]; go_simp; try with_reducible rfl
          try simp only [Act.put, List.setIfInBounds_toArray, List.set_cons_zero, List.set_cons_succ]
          refine held_run 11 (some 33) (.binOp .lss 3 (.tmp 26) (.tmp 32) 3) ?v10_3_11 (by rfl) (by kernel_rfl) (by kernel_rfl) (by kernel_rfl) (fun _ _ _ h => h) (fun o ho w hS => ?y10_3_11) (by assumption) ?r10_3_11
          case y10_3_11 => (try dsimp only at hS); unfold execOp; simp only [ho]; go_simp; try with_reducible rfl
          try simp only [Act.put, List.setIfInBounds_toArray, List.set_cons_zero, List.set_cons_succ]
          refine held_run 12 (some 34) (.pick (.tmp 24) (.tmp 33) (.const (Value.bool false))) ?v10_3_12 (by rfl) (by kernel_rfl) (by kernel_rfl) (by kernel_rfl) (fun _ _ _ h => h) (fun o ho w hS => ?y10_3_12) (by assumption) ?r10_3_12
          case y10_3_12 => (try dsimp only at hS); unfold execOp; simp only [ho]; go_simp; try with_reducible rfl
          try simp only [Act.put, List.setIfInBounds_toArray, List.set_cons_zero, List.set_cons_succ]
          refine wpAnyH_done (by kernel_rfl) ?_ _
          clear hwr
          go_wp2_with fail
          go_roundw
          case rel => exact ⟨k + 1, by omega, by go_num, by rw [HPs.out]; exact HS.out, below_drewN HBB2.out 1⟩
          case measure => simp [intOf]; omega
    · obtain rfl : k = n := by omega
      have HZ : Hid ((0 : Int) = r) := by
        show _ = _
        rw [← HRR.out]
        refine (right_stop HL.out (by omega) HF.out ?_).symm
        rw [List.drop_of_length_le (by rw [HL.out]; exact Nat.le_refl _)]
        rfl
      go_wp2_with fail
      go_ret
      exact ⟨ret_i HZ.out, HB.out⟩
end Go.Proofs.Ytmbdlnimegdigaa
