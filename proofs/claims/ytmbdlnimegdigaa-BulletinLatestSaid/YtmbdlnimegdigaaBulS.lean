/-
  Right of the reference of chapter 49, walked.
-/
import Derived.Test.YtmbdlnimegdigaaBulR
import Derived.Test.YtmbdlnimegdigaaReg
import Derived.IntWalk
namespace Go.Proofs.Ytmbdlnimegdigaa
open Go.RowKit

theorem inr_not {ver fr ti lo hi lev : Int} {zs : List Int} (h : ¬ InR ⟨ver, fr, ti, lo, hi, lev, zs⟩) :
    ver < 1 ∨ (1 ≤ ver ∧ 1000000 < ver) ∨ (1 ≤ ver ∧ ver ≤ 1000000 ∧ fr < 0) ∨ (1 ≤ ver ∧ ver ≤ 1000000 ∧ 0 ≤ fr ∧ ti ≤ fr) ∨ (1 ≤ ver ∧ ver ≤ 1000000 ∧ 0 ≤ fr ∧ fr < ti ∧ 20000000 < ti) ∨ (1 ≤ ver ∧ ver ≤ 1000000 ∧ 0 ≤ fr ∧ fr < ti ∧ ti ≤ 20000000 ∧ lo < 0) ∨
    (1 ≤ ver ∧ ver ≤ 1000000 ∧ 0 ≤ fr ∧ fr < ti ∧ ti ≤ 20000000 ∧ 0 ≤ lo ∧ hi ≤ lo) ∨ (1 ≤ ver ∧ ver ≤ 1000000 ∧ 0 ≤ fr ∧ fr < ti ∧ ti ≤ 20000000 ∧ 0 ≤ lo ∧ lo < hi ∧ 6000 < hi) ∨
    (1 ≤ ver ∧ ver ≤ 1000000 ∧ 0 ≤ fr ∧ fr < ti ∧ ti ≤ 20000000 ∧ 0 ≤ lo ∧ lo < hi ∧ hi ≤ 6000 ∧ lev < 1) ∨ (1 ≤ ver ∧ ver ≤ 1000000 ∧ 0 ≤ fr ∧ fr < ti ∧ ti ≤ 20000000 ∧ 0 ≤ lo ∧ lo < hi ∧ hi ≤ 6000 ∧ 1 ≤ lev ∧ 5 < lev) := by
  by_cases a0 : ver < 1
  · exact .inl a0
  by_cases a1 : 1000000 < ver
  · exact .inr (.inl ⟨by omega, a1⟩)
  by_cases a2 : fr < 0
  · exact .inr (.inr (.inl ⟨by omega, by omega, a2⟩))
  by_cases a3 : ti ≤ fr
  · exact .inr (.inr (.inr (.inl ⟨by omega, by omega, by omega, a3⟩)))
  by_cases a4 : 20000000 < ti
  · exact .inr (.inr (.inr (.inr (.inl ⟨by omega, by omega, by omega, by omega, a4⟩))))
  by_cases a5 : lo < 0
  · exact .inr (.inr (.inr (.inr (.inr (.inl ⟨by omega, by omega, by omega, by omega, by omega, a5⟩)))))
  by_cases a6 : hi ≤ lo
  · exact .inr (.inr (.inr (.inr (.inr (.inr (.inl ⟨by omega, by omega, by omega, by omega, by omega, by omega, a6⟩))))))
  by_cases a7 : 6000 < hi
  · exact .inr (.inr (.inr (.inr (.inr (.inr (.inr (.inl ⟨by omega, by omega, by omega, by omega, by omega, by omega, by omega, a7⟩)))))))
  by_cases a8 : lev < 1
  · exact .inr (.inr (.inr (.inr (.inr (.inr (.inr (.inr (.inl ⟨by omega, by omega, by omega, by omega, by omega, by omega, by omega, by omega, a8⟩))))))))
  by_cases a9 : 5 < lev
  · exact .inr (.inr (.inr (.inr (.inr (.inr (.inr (.inr (.inr (⟨by omega, by omega, by omega, by omega, by omega, by omega, by omega, by omega, by omega, a9⟩)))))))))
  exact (h ⟨Int.not_lt.1 a0, Int.not_lt.1 a1, Int.not_lt.1 a2, Int.not_le.1 a3, Int.not_lt.1 a4, Int.not_lt.1 a5, Int.not_le.1 a6, Int.not_lt.1 a7, Int.not_lt.1 a8, Int.not_lt.1 a9⟩).elim

set_option maxRecDepth 100000 in
set_option maxHeartbeats 16000000 in
theorem rright_any (A : Option Addr) (n c : Nat) (bs : List Bu) (w : World) (hr : Buls w w.heap.size A n bs) :
    Calls Try.prog 12 #[.slice A n c] w fun e w' => e = .returned (.int .i64 (rightN bs)) ∧ Below w.heap.size w w' := by
  have HR := Lib.hid hr
  have HL := Lib.hid hr.len
  clear hr
  obtain ⟨r, hrr⟩ : ∃ r, rightN bs = r := ⟨_, rfl⟩
  rw [hrr]
  have HRR := Lib.hid hrr
  clear hrr
  by_cases h64 : 64 < n
  · have HZ : Hid (r = 4) := by show _ = _; rw [← HRR.out, rightN, if_pos (by rw [HL.out]; exact h64)]
    go_enter Try.func12, Try.ntmps12
    go_wp2_with fail
    go_ret
    exact ⟨ret_i HZ.out.symm, Below.refl _ _⟩
  go_enter Try.func12, Try.ntmps12
  go_wp2_with fail
  go_loopw [3] (fun i wr => ∃ k : Nat, k ≤ n ∧ i = .int .i64 k ∧ rightF 0 bs = rightF (prevV bs k) (bs.drop k) ∧ Below w.heap.size w wr) (fun i _ => n - (intOf i).toNat)
  case atStart => exact ⟨0, by omega, rfl, rfl, Below.refl _ _⟩
  case round =>
    obtain ⟨k, hk, rfl, hF, hbr⟩ := hrel
    obtain ⟨wo, rfl⟩ : ∃ wo : World, wo = wr := ⟨_, rfl⟩
    have HF := Lib.hid hF
    have HB := Lib.hid hbr
    have hsz := hbr.size
    clear hF hbr
    by_cases hlt : k < n
    · obtain ⟨ad, z, rfl, hab, hcs, hrow⟩ := (HR.out.below HB.out).at_ hlt
      have HAt := Lib.hid (rightF_at bs (prevV bs k) k (by rw [HL.out]; exact hlt))
      have HPs := Lib.hid (prevV_succ bs k (by rw [HL.out]; exact hlt))
      have HPrev : Hid (∀ k', k = k' + 1 → ∃ p : Int, prevV bs k = p ∧ ∀ W : World, Below w.heap.size wo W → W.cell? (ad.add (k' * 7)) = some (.int .i64 p)) := by
        intro k' hk'
        obtain ⟨ad', z', had, hab', hcs', _⟩ := (HR.out.below HB.out).at_ (show k' < n by omega)
        injection had with had
        subst had
        refine ⟨(bs.getD k' ⟨0, 0, 0, 0, 0, 0, []⟩).ver, by rw [hk', prevV_succ _ _ (by rw [HL.out]; omega)], fun W hW => ?_⟩
        have h := hcs' 0 _ rfl
        rw [show (ad.add (k' * 7)).add 0 = ad.add (k' * 7) by unfold Addr.add; simp] at h
        exact (hW.cell (by rw [block_of_add]; exact hab')).trans h
      generalize bs.getD k ⟨0, 0, 0, 0, 0, 0, []⟩ = b at *
      obtain ⟨ver, fr, ti, lo, hi, lev, zs⟩ := b
      obtain ⟨A2, c2, rfl, hz1, hz2, hzr⟩ := hrow
      obtain ⟨n2, hn2⟩ : ∃ n2, zs.length = n2 := ⟨_, rfl⟩
      rw [hn2] at hz1 hzr hcs
      have HCs := Lib.hid hcs
      have HZr := Lib.hid hzr
      have HM2 := Lib.hid (Nat.le_trans hz1 hz2)
      clear hcs hzr hn2 hz2
      have HStop : Hid (∀ q : Int, rightF (prevV bs k) (bs.drop k) = q → q = r) := fun q hq => by
        rw [← HRR.out, right_stop HL.out (by omega) HF.out hq]
      by_cases hin : InR ⟨ver, fr, ti, lo, hi, lev, zs⟩
      case neg =>
        have HZ := Lib.hid (HStop.out 2 (HAt.out.trans (if_pos hin)))
        have hw := inr_not hin
        clear hin
        rcases hw with h | ⟨h1, h⟩ | ⟨h1, h2, h⟩ | ⟨h1, h2, h3, h⟩ | ⟨h1, h2, h3, h4, h⟩ | ⟨h1, h2, h3, h4, h5, h⟩ | ⟨h1, h2, h3, h4, h5, h6, h⟩ | ⟨h1, h2, h3, h4, h5, h6, h7, h⟩ | ⟨h1, h2, h3, h4, h5, h6, h7, h8, h⟩ | ⟨h1, h2, h3, h4, h5, h6, h7, h8, h9, h⟩
        all_goals
          go_wp2_with
            (first
             | (refine wpList_load_at 31 (.tmp 16) rfl rfl (ad.add (k * 7)) rfl [.int .i64 ver, .int .i64 fr, .int .i64 ti, .int .i64 lo, .int .i64 hi, .slice A2 n2 c2, .int .i64 lev] HCs.out _ Try.underlying31 rfl (by kernel_rfl) ?_)
             | (refine wpList_store_blk rfl 31 (.tmp 4) (.tmp 17) rfl wo.heap.size #[.int .i64 ver, .int .i64 fr, .int .i64 ti, .int .i64 lo, .int .i64 hi, .slice A2 n2 c2, .int .i64 lev] rfl rfl _ _ (Blk.new wo 31 #[.int .i64 0, .int .i64 0, .int .i64 0, .int .i64 0, .int .i64 0, .slice none 0 0, .int .i64 0]) (by kernel_rfl) rfl (by simp [Value.oneCell']) ?_
                intro w2 hx2 hon2
                have hb2 := hon2.below (below_new wo (.cells #[.int .i64 0, .int .i64 0, .int .i64 0, .int .i64 0, .int .i64 0, .slice none 0 0, .int .i64 0] 31)) (Nat.le_refl _)
                have HB2 := Lib.hid hb2
                have HX2 := Lib.hid hx2
                have hl2 : wo.heap.size < w2.heap.size := hx2.lt
                have HBB2 := Lib.hid (HB.out.trans (HB2.out.mono hsz))
                have e0 : w2.cell? ⟨wo.heap.size, 0, none⟩ = some (.int .i64 ver) := HX2.out.cell 0
                have e1 : w2.cell? ⟨wo.heap.size, 1, none⟩ = some (.int .i64 fr) := HX2.out.cell 1
                have e2 : w2.cell? ⟨wo.heap.size, 2, none⟩ = some (.int .i64 ti) := HX2.out.cell 2
                have e3 : w2.cell? ⟨wo.heap.size, 3, none⟩ = some (.int .i64 lo) := HX2.out.cell 3
                have e4 : w2.cell? ⟨wo.heap.size, 4, none⟩ = some (.int .i64 hi) := HX2.out.cell 4
                have e5 : w2.cell? ⟨wo.heap.size, 5, none⟩ = some (.slice A2 n2 c2) := HX2.out.cell 5
                have e6 : w2.cell? ⟨wo.heap.size, 6, none⟩ = some (.int .i64 lev) := HX2.out.cell 6
                clear hx2 hon2 hb2))
          go_ret
          exact ⟨ret_i HZ.out, HBB2.out⟩
      have HIn := Lib.hid hin
      obtain ⟨i1, i2, i3, i4, i5, i6, i7, i8, i9, i10⟩ := hin
      simp only at i1 i2 i3 i4 i5 i6 i7 i8 i9 i10
      go_wp2_with
        (first
         | (refine wpList_load_at 31 (.tmp 16) rfl rfl (ad.add (k * 7)) rfl [.int .i64 ver, .int .i64 fr, .int .i64 ti, .int .i64 lo, .int .i64 hi, .slice A2 n2 c2, .int .i64 lev] HCs.out _ Try.underlying31 rfl (by kernel_rfl) ?_)
         | (refine wpList_store_blk rfl 31 (.tmp 4) (.tmp 17) rfl wo.heap.size #[.int .i64 ver, .int .i64 fr, .int .i64 ti, .int .i64 lo, .int .i64 hi, .slice A2 n2 c2, .int .i64 lev] rfl rfl _ _ (Blk.new wo 31 #[.int .i64 0, .int .i64 0, .int .i64 0, .int .i64 0, .int .i64 0, .slice none 0 0, .int .i64 0]) (by kernel_rfl) rfl (by simp [Value.oneCell']) ?_
            intro w2 hx2 hon2
            have hb2 := hon2.below (below_new wo (.cells #[.int .i64 0, .int .i64 0, .int .i64 0, .int .i64 0, .int .i64 0, .slice none 0 0, .int .i64 0] 31)) (Nat.le_refl _)
            have HB2 := Lib.hid hb2
            have HX2 := Lib.hid hx2
            have hl2 : wo.heap.size < w2.heap.size := hx2.lt
            have HBB2 := Lib.hid (HB.out.trans (HB2.out.mono hsz))
            have e0 : w2.cell? ⟨wo.heap.size, 0, none⟩ = some (.int .i64 ver) := HX2.out.cell 0
            have e1 : w2.cell? ⟨wo.heap.size, 1, none⟩ = some (.int .i64 fr) := HX2.out.cell 1
            have e2 : w2.cell? ⟨wo.heap.size, 2, none⟩ = some (.int .i64 ti) := HX2.out.cell 2
            have e3 : w2.cell? ⟨wo.heap.size, 3, none⟩ = some (.int .i64 lo) := HX2.out.cell 3
            have e4 : w2.cell? ⟨wo.heap.size, 4, none⟩ = some (.int .i64 hi) := HX2.out.cell 4
            have e5 : w2.cell? ⟨wo.heap.size, 5, none⟩ = some (.slice A2 n2 c2) := HX2.out.cell 5
            have e6 : w2.cell? ⟨wo.heap.size, 6, none⟩ = some (.int .i64 lev) := HX2.out.cell 6
            clear hx2 hon2 hb2))
      have HZr2 := Lib.hid (HZr.out.below (HB2.out.mono hsz))
      cases hzb : zonesB zs with
      | false =>
        have HZb := Lib.hid hzb
        have HZ := Lib.hid (HStop.out 1 (HAt.out.trans ((if_neg (not_not_intro HIn.out)).trans (if_pos hzb))))
        clear hzb
        with_reducible refine (rzones_any _ _ _ _ zs false _ HZr2.out HM2.out HZb.out).mono ?_
        rintro e w3 ⟨rfl, hdr⟩
        have HBB3 := Lib.hid (HBB2.out.trans (hdr.below _))
        clear hdr
        go_wp2_with fail
        go_ret
        exact ⟨ret_i HZ.out, HBB3.out⟩
      | true =>
      have HZb := Lib.hid hzb
      clear hzb
      with_reducible refine (rzones_any _ _ _ _ zs true _ HZr2.out HM2.out HZb.out).mono ?_
      rintro e w3 ⟨rfl, hdr⟩
      have HBB3 := Lib.hid (HBB2.out.trans (hdr.below _))
      have HB3 := Lib.hid (HB2.out.trans (hdr.below _))
      have f0 : w3.cell? ⟨wo.heap.size, 0, none⟩ = some (.int .i64 ver) := by obtain ⟨nd, rfl⟩ := hdr; exact HX2.out.cell 0
      clear hdr
      have HGo : Hid (rightF (prevV bs k) (bs.drop k) = if ver < prevV bs k then 11 else rightF ver (bs.drop (k + 1))) := hide (HAt.out.trans ((if_neg (not_not_intro HIn.out)).trans (if_neg (by rw [HZb.out]; simp))))
      have hver : 1 ≤ ver := i1
      go_wp2_with fail
      rcases Nat.eq_zero_or_pos k with hk0 | hk0
      · subst hk0
        have HS : Hid (rightF 0 bs = rightF ver (bs.drop 1)) := hide (HF.out.trans (HGo.out.trans (if_neg (by simp [prevV]; omega))))
        refine wp_region_held_drew (S := fun _ => True) (by kernel_rfl) (trivial) (fun hHeld => ?_)
        refine held_run 0 (some 78) (.move (.tmp 3)) ?v11_1_0 (by rfl) (by kernel_rfl) (by kernel_rfl) (by kernel_rfl) (fun _ _ _ h => h) (fun o ho w hS => ?y11_1_0) (by assumption) ?r11_1_0
        case y11_1_0 => (try dsimp only at hS); unfold execOp; simp only [ho]; go_simp; try with_reducible rfl
        try simp only [Act.put, List.setIfInBounds_toArray, List.set_cons_zero, List.set_cons_succ]
        refine held_run 1 (some 79) (.binOp .gtr 3 (.tmp 78) (.const (.int .i64 0)) 3) ?v11_1_1 (by rfl) (by kernel_rfl) (by kernel_rfl) (by kernel_rfl) (fun _ _ _ h => h) (fun o ho w hS => ?y11_1_1) (by assumption) ?r11_1_1
        case y11_1_1 => (try dsimp only at hS); unfold execOp; simp only [ho]; go_simp; try with_reducible rfl
        try simp only [Act.put, List.setIfInBounds_toArray, List.set_cons_zero, List.set_cons_succ]
        refine held_run 2 (some 80) (.move (.tmp 79)) ?v11_1_2 (by rfl) (by kernel_rfl) (by kernel_rfl) (by kernel_rfl) (fun _ _ _ h => h) (fun o ho w hS => ?y11_1_2) (by assumption) ?r11_1_2
        case y11_1_2 => (try dsimp only at hS); unfold execOp; simp only [ho]; go_simp; try with_reducible rfl
        try simp only [Act.put, List.setIfInBounds_toArray, List.set_cons_zero, List.set_cons_succ]
        refine held_skip 3 (some 81) (by rfl) (by kernel_rfl) (by kernel_rfl) (by kernel_rfl) (fun _ _ _ h => h) (by assumption) ?_
        try simp only [Act.put, List.setIfInBounds_toArray, List.set_cons_zero, List.set_cons_succ]
        refine held_skip 4 (some 82) (by rfl) (by kernel_rfl) (by kernel_rfl) (by kernel_rfl) (fun _ _ _ h => h) (by assumption) ?_
        try simp only [Act.put, List.setIfInBounds_toArray, List.set_cons_zero, List.set_cons_succ]
        refine held_skip 5 (some 83) (by rfl) (by kernel_rfl) (by kernel_rfl) (by kernel_rfl) (fun _ _ _ h => h) (by assumption) ?_
        try simp only [Act.put, List.setIfInBounds_toArray, List.set_cons_zero, List.set_cons_succ]
        refine held_skip 6 (some 84) (by rfl) (by kernel_rfl) (by kernel_rfl) (by kernel_rfl) (fun _ _ _ h => h) (by assumption) ?_
        try simp only [Act.put, List.setIfInBounds_toArray, List.set_cons_zero, List.set_cons_succ]
        refine held_skip 7 (some 85) (by rfl) (by kernel_rfl) (by kernel_rfl) (by kernel_rfl) (fun _ _ _ h => h) (by assumption) ?_
        try simp only [Act.put, List.setIfInBounds_toArray, List.set_cons_zero, List.set_cons_succ]
        refine held_skip 8 (some 86) (by rfl) (by kernel_rfl) (by kernel_rfl) (by kernel_rfl) (fun _ _ _ h => h) (by assumption) ?_
        try simp only [Act.put, List.setIfInBounds_toArray, List.set_cons_zero, List.set_cons_succ]
        refine held_skip 9 (some 87) (by rfl) (by kernel_rfl) (by kernel_rfl) (by kernel_rfl) (fun _ _ _ h => h) (by assumption) ?_
        try simp only [Act.put, List.setIfInBounds_toArray, List.set_cons_zero, List.set_cons_succ]
        refine held_skip 10 (some 88) (by rfl) (by kernel_rfl) (by kernel_rfl) (by kernel_rfl) (fun _ _ _ h => h) (by assumption) ?_
        try simp only [Act.put, List.setIfInBounds_toArray, List.set_cons_zero, List.set_cons_succ]
        refine held_skip 11 (some 89) (by rfl) (by kernel_rfl) (by kernel_rfl) (by kernel_rfl) (fun _ _ _ h => h) (by assumption) ?_
        try simp only [Act.put, List.setIfInBounds_toArray, List.set_cons_zero, List.set_cons_succ]
        refine held_run 12 (some 90) (.pick (.tmp 80) (.tmp 89) (.const (Value.bool false))) ?v11_1_12 (by rfl) (by kernel_rfl) (by kernel_rfl) (by kernel_rfl) (fun _ _ _ h => h) (fun o ho w hS => ?y11_1_12) (by assumption) ?r11_1_12
        case y11_1_12 => (try dsimp only at hS); unfold execOp; simp only [ho]; go_simp; try with_reducible rfl
        try simp only [Act.put, List.setIfInBounds_toArray, List.set_cons_zero, List.set_cons_succ]
        refine wpAnyH_done (by kernel_rfl) ?_ _
        go_wp2_with fail
        go_roundw
        case rel => exact ⟨1, by omega, by go_num, by rw [HPs.out]; exact HS.out, below_drewN HBB3.out 1⟩
        case measure => simp [intOf]; omega
      · obtain ⟨k', hk'⟩ : ∃ k', k = k' + 1 := ⟨k - 1, by omega⟩
        obtain ⟨p, hp, hcp'⟩ := HPrev.out k' hk'
        have hcp := hcp' w3 (HB3.out.mono hsz)
        have hj : (k : Int) - 1 = (k' : Int) := by omega
        have hkn : k' < n := by omega
        have dk : decide (0 < k) = true := by simpa using hk0
        have HF2 : Hid (rightF 0 bs = rightF p (bs.drop k)) := by rw [← hp]; exact HF.out
        rw [hp] at HGo HStop
        clear hcp' hp hk'
        by_cases h3 : ver < p
        · have HZ := Lib.hid (HStop.out 11 (HGo.out.trans (if_pos h3)))
          have hwr : IntKind.i64.wrap (k' : Int) = (k' : Int) := IntWalk.i64_in _ (by omega)
          refine wp_region_held_drew (S := fun W => W.cell? ⟨wo.heap.size, 0, none⟩ = some (.int .i64 ver) ∧ W.cell? (ad.add (k' * 7)) = some (.int .i64 p)) (by kernel_rfl) (⟨f0, hcp⟩) (fun hHeld => ?_)
          refine held_run 0 (some 78) (.move (.tmp 3)) ?v11_2_0 (by rfl) (by kernel_rfl) (by kernel_rfl) (by kernel_rfl) (fun _ _ _ h => h) (fun o ho w hS => ?y11_2_0) (by assumption) ?r11_2_0
          case y11_2_0 => (try dsimp only at hS); unfold execOp; simp only [ho]; go_simp; try with_reducible rfl
          try simp only [Act.put, List.setIfInBounds_toArray, List.set_cons_zero, List.set_cons_succ]
          refine held_run 1 (some 79) (.binOp .gtr 3 (.tmp 78) (.const (.int .i64 0)) 3) ?v11_2_1 (by rfl) (by kernel_rfl) (by kernel_rfl) (by kernel_rfl) (fun _ _ _ h => h) (fun o ho w hS => ?y11_2_1) (by assumption) ?r11_2_1
          case y11_2_1 => (try dsimp only at hS); unfold execOp; simp only [ho]; go_simp; try with_reducible rfl
          try simp only [Act.put, List.setIfInBounds_toArray, List.set_cons_zero, List.set_cons_succ]
          refine held_run 2 (some 80) (.move (.tmp 79)) ?v11_2_2 (by rfl) (by kernel_rfl) (by kernel_rfl) (by kernel_rfl) (fun _ _ _ h => h) (fun o ho w hS => ?y11_2_2) (by assumption) ?r11_2_2
          case y11_2_2 => (try dsimp only at hS); unfold execOp; simp only [ho]; go_simp; try with_reducible rfl
          try simp only [Act.put, List.setIfInBounds_toArray, List.set_cons_zero, List.set_cons_succ]
          refine held_run 3 (some 81) (.fieldAddr 31 (.tmp 4) 0) ?v11_2_3 (by rfl) (by kernel_rfl) (by kernel_rfl) (by kernel_rfl) (fun _ _ _ h => h) (fun o ho w hS => ?y11_2_3) (by assumption) ?r11_2_3
          case y11_2_3 => (try dsimp only at hS); unfold execOp; simp only [ho]; go_simp; try with_reducible rfl
          try simp only [Act.put, List.setIfInBounds_toArray, List.set_cons_zero, List.set_cons_succ]
          refine held_run 4 (some 82) (.load 3 (.tmp 81)) ?v11_2_4 (by rfl) (by kernel_rfl) (by kernel_rfl) (by kernel_rfl) (fun _ _ _ h => h) (fun o ho w hS => ?y11_2_4) (by assumption) ?r11_2_4
          case y11_2_4 => (try dsimp only at hS); unfold execOp; simp only [ho]; go_simp; try with_reducible rfl
          try simp only [Act.put, List.setIfInBounds_toArray, List.set_cons_zero, List.set_cons_succ]
          refine held_run 5 (some 83) (.move (.tmp 0)) ?v11_2_5 (by rfl) (by kernel_rfl) (by kernel_rfl) (by kernel_rfl) (fun _ _ _ h => h) (fun o ho w hS => ?y11_2_5) (by assumption) ?r11_2_5
          case y11_2_5 => (try dsimp only at hS); unfold execOp; simp only [ho]; go_simp; try with_reducible rfl
          try simp only [Act.put, List.setIfInBounds_toArray, List.set_cons_zero, List.set_cons_succ]
          refine held_run 6 (some 84) (.move (.tmp 3)) ?v11_2_6 (by rfl) (by kernel_rfl) (by kernel_rfl) (by kernel_rfl) (fun _ _ _ h => h) (fun o ho w hS => ?y11_2_6) (by assumption) ?r11_2_6
          case y11_2_6 => (try dsimp only at hS); unfold execOp; simp only [ho]; go_simp; try with_reducible rfl
          try simp only [Act.put, List.setIfInBounds_toArray, List.set_cons_zero, List.set_cons_succ]
          refine held_run 7 (some 85) (.binOp .sub 3 (.tmp 84) (.const (.int .i64 1)) 3) ?v11_2_7 (by rfl) (by kernel_rfl) (by kernel_rfl) (by kernel_rfl) (fun _ _ _ h => h) (fun o ho w hS => ?y11_2_7) (by assumption) ?r11_2_7
          case y11_2_7 => (try dsimp only at hS); unfold execOp; simp only [ho]; go_simp; try with_reducible rfl
          try simp only [Act.put, List.setIfInBounds_toArray, List.set_cons_zero, List.set_cons_succ]
          refine held_run 8 (some 86) (.indexAddr 22 (.tmp 83) (.tmp 85)) ?v11_2_8 (by rfl) (by kernel_rfl) (by kernel_rfl) (by kernel_rfl) (fun _ _ _ h => h) (fun o ho w hS => ?y11_2_8) (by assumption) ?r11_2_8
          case y11_2_8 => (try dsimp only at hS); unfold execOp; simp only [ho]; go_simp; try with_reducible rfl
          try simp only [Act.put, List.setIfInBounds_toArray, List.set_cons_zero, List.set_cons_succ]
          refine held_run 9 (some 87) (.fieldAddr 31 (.tmp 86) 0) ?v11_2_9 (by rfl) (by kernel_rfl) (by kernel_rfl) (by kernel_rfl) (fun _ _ _ h => h) (fun o ho w hS => ?y11_2_9) (by assumption) ?r11_2_9
          case y11_2_9 => (try dsimp only at hS); unfold execOp; simp only [ho]; go_simp; try with_reducible rfl
          try simp only [Act.put, List.setIfInBounds_toArray, List.set_cons_zero, List.set_cons_succ]
          refine held_run 10 (some 88) (.load 3 (.tmp 87)) ?v11_2_10 (by rfl) (by kernel_rfl) (by kernel_rfl) (by kernel_rfl) (fun _ _ _ h => h) (fun o ho w hS => ?y11_2_10) (by assumption) ?r11_2_10
          case y11_2_10 => (try dsimp only at hS); unfold execOp; simp only [ho]; go_simp; try with_reducible rfl
          try simp only [Act.put, List.setIfInBounds_toArray, List.set_cons_zero, List.set_cons_succ]
          refine held_run 11 (some 89) (.binOp .lss 3 (.tmp 82) (.tmp 88) 3) ?v11_2_11 (by rfl) (by kernel_rfl) (by kernel_rfl) (by kernel_rfl) (fun _ _ _ h => h) (fun o ho w hS => ?y11_2_11) (by assumption) ?r11_2_11
          case y11_2_11 => (try dsimp only at hS); unfold execOp; simp only [ho]; go_simp; try with_reducible rfl
          try simp only [Act.put, List.setIfInBounds_toArray, List.set_cons_zero, List.set_cons_succ]
          refine held_run 12 (some 90) (.pick (.tmp 80) (.tmp 89) (.const (Value.bool false))) ?v11_2_12 (by rfl) (by kernel_rfl) (by kernel_rfl) (by kernel_rfl) (fun _ _ _ h => h) (fun o ho w hS => ?y11_2_12) (by assumption) ?r11_2_12
          case y11_2_12 => (try dsimp only at hS); unfold execOp; simp only [ho]; go_simp; try with_reducible rfl
          try simp only [Act.put, List.setIfInBounds_toArray, List.set_cons_zero, List.set_cons_succ]
          refine wpAnyH_done (by kernel_rfl) ?_ _
          clear hwr
          go_wp2_with fail
          go_ret
          exact ⟨ret_i HZ.out, below_drewN HBB3.out 1⟩
        · have HS : Hid (rightF 0 bs = rightF ver (bs.drop (k + 1))) := by
            show _ = _
            rw [HF2.out]
            exact HGo.out.trans (if_neg h3)
          have d3 : decide (ver < p) = false := by simpa using h3
          have hwr : IntKind.i64.wrap (k' : Int) = (k' : Int) := IntWalk.i64_in _ (by omega)
          refine wp_region_held_drew (S := fun W => W.cell? ⟨wo.heap.size, 0, none⟩ = some (.int .i64 ver) ∧ W.cell? (ad.add (k' * 7)) = some (.int .i64 p)) (by kernel_rfl) (⟨f0, hcp⟩) (fun hHeld => ?_)
          refine held_run 0 (some 78) (.move (.tmp 3)) ?v11_3_0 (by rfl) (by kernel_rfl) (by kernel_rfl) (by kernel_rfl) (fun _ _ _ h => h) (fun o ho w hS => ?y11_3_0) (by assumption) ?r11_3_0
          case y11_3_0 => (try dsimp only at hS); unfold execOp; simp only [ho]; go_simp; try with_reducible rfl
          try simp only [Act.put, List.setIfInBounds_toArray, List.set_cons_zero, List.set_cons_succ]
          refine held_run 1 (some 79) (.binOp .gtr 3 (.tmp 78) (.const (.int .i64 0)) 3) ?v11_3_1 (by rfl) (by kernel_rfl) (by kernel_rfl) (by kernel_rfl) (fun _ _ _ h => h) (fun o ho w hS => ?y11_3_1) (by assumption) ?r11_3_1
          case y11_3_1 => (try dsimp only at hS); unfold execOp; simp only [ho]; go_simp; try with_reducible rfl
          try simp only [Act.put, List.setIfInBounds_toArray, List.set_cons_zero, List.set_cons_succ]
          refine held_run 2 (some 80) (.move (.tmp 79)) ?v11_3_2 (by rfl) (by kernel_rfl) (by kernel_rfl) (by kernel_rfl) (fun _ _ _ h => h) (fun o ho w hS => ?y11_3_2) (by assumption) ?r11_3_2
          case y11_3_2 => (try dsimp only at hS); unfold execOp; simp only [ho]; go_simp; try with_reducible rfl
          try simp only [Act.put, List.setIfInBounds_toArray, List.set_cons_zero, List.set_cons_succ]
          refine held_run 3 (some 81) (.fieldAddr 31 (.tmp 4) 0) ?v11_3_3 (by rfl) (by kernel_rfl) (by kernel_rfl) (by kernel_rfl) (fun _ _ _ h => h) (fun o ho w hS => ?y11_3_3) (by assumption) ?r11_3_3
          case y11_3_3 => (try dsimp only at hS); unfold execOp; simp only [ho]; go_simp; try with_reducible rfl
          try simp only [Act.put, List.setIfInBounds_toArray, List.set_cons_zero, List.set_cons_succ]
          refine held_run 4 (some 82) (.load 3 (.tmp 81)) ?v11_3_4 (by rfl) (by kernel_rfl) (by kernel_rfl) (by kernel_rfl) (fun _ _ _ h => h) (fun o ho w hS => ?y11_3_4) (by assumption) ?r11_3_4
          case y11_3_4 => (try dsimp only at hS); unfold execOp; simp only [ho]; go_simp; try with_reducible rfl
          try simp only [Act.put, List.setIfInBounds_toArray, List.set_cons_zero, List.set_cons_succ]
          refine held_run 5 (some 83) (.move (.tmp 0)) ?v11_3_5 (by rfl) (by kernel_rfl) (by kernel_rfl) (by kernel_rfl) (fun _ _ _ h => h) (fun o ho w hS => ?y11_3_5) (by assumption) ?r11_3_5
          case y11_3_5 => (try dsimp only at hS); unfold execOp; simp only [ho]; go_simp; try with_reducible rfl
          try simp only [Act.put, List.setIfInBounds_toArray, List.set_cons_zero, List.set_cons_succ]
          refine held_run 6 (some 84) (.move (.tmp 3)) ?v11_3_6 (by rfl) (by kernel_rfl) (by kernel_rfl) (by kernel_rfl) (fun _ _ _ h => h) (fun o ho w hS => ?y11_3_6) (by assumption) ?r11_3_6
          case y11_3_6 => (try dsimp only at hS); unfold execOp; simp only [ho]; go_simp; try with_reducible rfl
          try simp only [Act.put, List.setIfInBounds_toArray, List.set_cons_zero, List.set_cons_succ]
          refine held_run 7 (some 85) (.binOp .sub 3 (.tmp 84) (.const (.int .i64 1)) 3) ?v11_3_7 (by rfl) (by kernel_rfl) (by kernel_rfl) (by kernel_rfl) (fun _ _ _ h => h) (fun o ho w hS => ?y11_3_7) (by assumption) ?r11_3_7
          case y11_3_7 => (try dsimp only at hS); unfold execOp; simp only [ho]; go_simp; try with_reducible rfl
          try simp only [Act.put, List.setIfInBounds_toArray, List.set_cons_zero, List.set_cons_succ]
          refine held_run 8 (some 86) (.indexAddr 22 (.tmp 83) (.tmp 85)) ?v11_3_8 (by rfl) (by kernel_rfl) (by kernel_rfl) (by kernel_rfl) (fun _ _ _ h => h) (fun o ho w hS => ?y11_3_8) (by assumption) ?r11_3_8
          case y11_3_8 => (try dsimp only at hS); unfold execOp; simp only [ho]; go_simp; try with_reducible rfl
          try simp only [Act.put, List.setIfInBounds_toArray, List.set_cons_zero, List.set_cons_succ]
          refine held_run 9 (some 87) (.fieldAddr 31 (.tmp 86) 0) ?v11_3_9 (by rfl) (by kernel_rfl) (by kernel_rfl) (by kernel_rfl) (fun _ _ _ h => h) (fun o ho w hS => ?y11_3_9) (by assumption) ?r11_3_9
          case y11_3_9 => (try dsimp only at hS); unfold execOp; simp only [ho]; go_simp; try with_reducible rfl
          try simp only [Act.put, List.setIfInBounds_toArray, List.set_cons_zero, List.set_cons_succ]
          refine held_run 10 (some 88) (.load 3 (.tmp 87)) ?v11_3_10 (by rfl) (by kernel_rfl) (by kernel_rfl) (by kernel_rfl) (fun _ _ _ h => h) (fun o ho w hS => ?y11_3_10) (by assumption) ?r11_3_10
          case y11_3_10 => (try dsimp only at hS); unfold execOp; simp only [ho]; go_simp; try with_reducible rfl
          try simp only [Act.put, List.setIfInBounds_toArray, List.set_cons_zero, List.set_cons_succ]
          refine held_run 11 (some 89) (.binOp .lss 3 (.tmp 82) (.tmp 88) 3) ?v11_3_11 (by rfl) (by kernel_rfl) (by kernel_rfl) (by kernel_rfl) (fun _ _ _ h => h) (fun o ho w hS => ?y11_3_11) (by assumption) ?r11_3_11
          case y11_3_11 => (try dsimp only at hS); unfold execOp; simp only [ho]; go_simp; try with_reducible rfl
          try simp only [Act.put, List.setIfInBounds_toArray, List.set_cons_zero, List.set_cons_succ]
          refine held_run 12 (some 90) (.pick (.tmp 80) (.tmp 89) (.const (Value.bool false))) ?v11_3_12 (by rfl) (by kernel_rfl) (by kernel_rfl) (by kernel_rfl) (fun _ _ _ h => h) (fun o ho w hS => ?y11_3_12) (by assumption) ?r11_3_12
          case y11_3_12 => (try dsimp only at hS); unfold execOp; simp only [ho]; go_simp; try with_reducible rfl
          try simp only [Act.put, List.setIfInBounds_toArray, List.set_cons_zero, List.set_cons_succ]
          refine wpAnyH_done (by kernel_rfl) ?_ _
          clear hwr
          go_wp2_with fail
          go_roundw
          case rel => exact ⟨k + 1, by omega, by go_num, by rw [HPs.out]; exact HS.out, below_drewN HBB3.out 1⟩
          case measure => simp [intOf]; omega
    · obtain rfl : k = n := by omega
      have HZ : Hid ((0 : Int) = r) := by
        show _ = _
        rw [← HRR.out]
        refine (right_stop HL.out (by omega) HF.out ?_).symm
        rw [List.drop_of_length_le (by rw [HL.out]; exact Nat.le_refl _)]
        rfl
      go_wp2_with fail
      go_ret
      exact ⟨ret_i HZ.out, HB.out⟩
end Go.Proofs.Ytmbdlnimegdigaa
