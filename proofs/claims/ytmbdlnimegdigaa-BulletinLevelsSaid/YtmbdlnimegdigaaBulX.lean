/-
  has, Worst and Level of the reference of chapter 49, walked.
-/
import Derived.Test.YtmbdlnimegdigaaBulC
import Derived.Test.YtmbdlnimegdigaaRegA
import Derived.Test.YtmbdlnimegdigaaReg
import Derived.IntWalk
namespace Go.Proofs.Ytmbdlnimegdigaa
open Go.RowKit

set_option maxRecDepth 100000 in
set_option maxHeartbeats 1000000 in
theorem rhas_any (A : Option Addr) (n c B : Nat) (l : List Int) (x : Int) (b : Bool) (w : World) (hr : Ints w B A n l) (hn : n ≤ maxLen) (hb : l.contains x = b) :
    Calls Try.prog 32 #[.slice A n c, .int .i64 x] w fun e w' => e = .returned (.bool b) ∧ w = w' := by
  unfold maxLen at hn
  have HR := Lib.hid hr
  have HL := Lib.hid hr.ilen
  have HB := Lib.hid hb
  clear hr hb
  go_enter Try.func32, Try.ntmps32
  go_wp2_with fail
  go_loop [5] (fun i => ∃ k : Nat, k ≤ n ∧ i = .int .i64 k ∧ (l.take k).contains x = false) (fun i => n - (intOf i).toNat)
  case atStart => exact ⟨0, by omega, rfl, rfl⟩
  case round =>
    obtain ⟨k, hk, rfl, hno⟩ := hrel
    have HNo := Lib.hid hno
    clear hno
    by_cases hlt : k < n
    · obtain ⟨ad, rfl, _, hc⟩ := HR.out.int hlt
      have HNx := Lib.hid (contains_next l x k (by rw [HL.out]; exact hlt) HNo.out)
      generalize l.getD k 0 = y at *
      by_cases hxy : x = y
      · have HY : Hid (b = true) := by show _ = _; rw [← HB.out]; exact contains_take (HNx.out.trans (beq_iff_eq.2 hxy))
        have d1 : (y == x) = true := beq_iff_eq.2 hxy.symm
        clear hxy
        go_wp2_with fail
        go_ret
        exact ⟨ret_b HY.out.symm, rfl⟩
      · have d1 : (y == x) = false := beq_eq_false_iff_ne.2 (Ne.symm hxy)
        have HN2 : Hid ((l.take (k + 1)).contains x = false) := hide (HNx.out.trans (beq_eq_false_iff_ne.2 hxy))
        clear hxy
        go_wp2_with fail
        go_round
        case rel => exact ⟨k + 1, by omega, by go_num, HN2.out⟩
        case measure => simp [intOf]; omega
    · obtain rfl : k = n := by omega
      have HF : Hid (b = false) := by
        show _ = _
        have h := HNo.out
        rw [List.take_of_length_le (by rw [HL.out]; exact Nat.le_refl _)] at h
        rw [← HB.out, h]
      go_wp2_with fail
      go_ret
      exact ⟨ret_b HF.out.symm, rfl⟩
set_option maxRecDepth 100000 in
set_option maxHeartbeats 2000000 in
theorem rwor_any (A : Option Addr) (n c : Nat) (bs : List Bu) (t : Int) (w : World) (hr : Buls w w.heap.size A n bs) (hn : n ≤ maxLen) :
    Calls Try.prog 22 #[.slice A n c, .int .i64 t] w fun e w' => e = .returned (.int .i64 (worN bs t)) ∧ Below w.heap.size w w' := by
  unfold maxLen at hn
  have HR := Lib.hid hr
  have HL := Lib.hid hr.len
  clear hr
  obtain ⟨cv, hcv⟩ : ∃ cv, curN bs t = cv := ⟨_, rfl⟩
  have HCu : Hid (∀ W : World, Buls W W.heap.size A n bs → Calls Try.prog 18 #[.slice A n c, .int .i64 t] W fun e w' => e = .returned (.int .i64 cv) ∧ Below W.heap.size W w') := by
    intro W hW
    rw [← hcv]
    exact rcur_any A n c bs t W hW (by simpa only [maxLen] using hn)
  rw [show worN bs t = levF (countB cv t) 0 bs by rw [worN, hcv]]
  clear hcv
  go_enter Try.func22, Try.ntmps22
  go_wp2_with fail
  go_loopw [5, 6] (fun v i wr => ∃ (k : Nat), k ≤ n ∧ i = .int .i64 k ∧ v = .int .i64 (levF (countB cv t) 0 (bs.take k)) ∧ Below w.heap.size w wr) (fun _ i _ => n - (intOf i).toNat)
  case atStart => exact ⟨0, by omega, rfl, rfl, Below.refl _ _⟩
  case round =>
    obtain ⟨k, hk, rfl, rfl, hbr⟩ := hrel
    obtain ⟨wo, rfl⟩ : ∃ wo : World, wo = wr := ⟨_, rfl⟩
    have HB := Lib.hid hbr
    have hsz := hbr.size
    clear hbr
    by_cases hlt : k < n
    · have HRo := Lib.hid (HR.out.now HB.out)
      obtain ⟨ad, z, rfl, hab, hcs, hrow⟩ := (HR.out.below HB.out).at_ hlt
      have HTk := Lib.hid (bu_take bs k (by rw [HL.out]; exact hlt))
      have HSn := Lib.hid (levF_snoc (countB cv t) 0 (bs.take k) (bs.getD k ⟨0, 0, 0, 0, 0, 0, []⟩))
      rw [← HTk.out] at HSn
      generalize bs.getD k ⟨0, 0, 0, 0, 0, 0, []⟩ = b at *
      obtain ⟨ver, fr, ti, lo, hi, lev, zs⟩ := b
      obtain ⟨A2, c2, rfl, hz1, hz2, hzr⟩ := hrow
      obtain ⟨n2, hn2⟩ : ∃ n2, zs.length = n2 := ⟨_, rfl⟩
      rw [hn2] at hz1 hzr hcs
      have HCs := Lib.hid hcs
      have HZr := Lib.hid hzr
      have HM2 := Lib.hid (Nat.le_trans hz1 hz2)
      clear hcs hzr hn2 hz2
      generalize levF (countB cv t) 0 (bs.take k) = v at *
      obtain ⟨q, hq⟩ : ∃ q, hasB ⟨ver, fr, ti, lo, hi, lev, zs⟩ t = q := ⟨_, rfl⟩
      have HCv : Hid (∀ W : World, Calls Try.prog 31 #[.agg #[.int .i64 ver, .int .i64 fr, .int .i64 ti, .int .i64 lo, .int .i64 hi, .slice A2 n2 c2, .int .i64 lev], .int .i64 t] W fun e w' => e = .returned (.bool q) ∧ Below W.heap.size W w') := by
        intro W
        have h := covers_any ⟨ver, fr, ti, lo, hi, lev, zs⟩ (.slice A2 n2 c2) rfl t W
        rw [hq] at h
        exact h
      have hpl : countB cv t ⟨ver, fr, ti, lo, hi, lev, zs⟩ = (decide (ver = cv) && q) := by
        show (decide (ver = cv) && hasB ⟨ver, fr, ti, lo, hi, lev, zs⟩ t) = _
        rw [hq]
      rw [hpl] at HSn
      clear hq hpl
      go_wp2_with fail
      have c0 : wo.cell? (ad.add (k * 7)) = some (.int .i64 ver) := (by have h := HCs.out 0 _ rfl; rwa [show (ad.add (k * 7)).add 0 = (ad.add (k * 7)) by unfold Addr.add; simp] at h)
      have hcd := HCs.out
      cases q with
      | true =>
        by_cases hvv : ver = cv
        · have HTr : Hid ((decide (ver = cv) && true) = true) := by show _ = _; simp [hvv]
          have dvv : (ver == cv) = true := beq_iff_eq.2 hvv
          clear hvv
          refine wp_region_held_drew (S := fun W => (∀ j u, ([.int .i64 ver, .int .i64 fr, .int .i64 ti, .int .i64 lo, .int .i64 hi, .slice A2 n2 c2, .int .i64 lev] : List Value)[j]? = some u → W.cell? ((ad.add (k * 7)).add j) = some u) ∧ W.cell? (ad.add (k * 7)) = some (.int .i64 ver)) (by kernel_rfl) (⟨hcd, c0⟩) (fun hHeld => ?_)
          refine held_run 0 (some 13) (.move (.tmp 0)) ?v5_1_0 (by rfl) (by kernel_rfl) (by kernel_rfl) (by kernel_rfl) (fun _ _ _ h => h) (fun o ho w hS => ?y5_1_0) (by assumption) ?r5_1_0
          case y5_1_0 => (try dsimp only at hS); unfold execOp; simp only [ho]; go_simp; try with_reducible rfl
          try simp only [Act.put, List.setIfInBounds_toArray, List.set_cons_zero, List.set_cons_succ]
          refine held_run 1 (some 14) (.move (.tmp 6)) ?v5_1_1 (by rfl) (by kernel_rfl) (by kernel_rfl) (by kernel_rfl) (fun _ _ _ h => h) (fun o ho w hS => ?y5_1_1) (by assumption) ?r5_1_1
          case y5_1_1 => (try dsimp only at hS); unfold execOp; simp only [ho]; go_simp; try with_reducible rfl
          try simp only [Act.put, List.setIfInBounds_toArray, List.set_cons_zero, List.set_cons_succ]
          refine held_run 2 (some 15) (.indexAddr 22 (.tmp 13) (.tmp 14)) ?v5_1_2 (by rfl) (by kernel_rfl) (by kernel_rfl) (by kernel_rfl) (fun _ _ _ h => h) (fun o ho w hS => ?y5_1_2) (by assumption) ?r5_1_2
          case y5_1_2 => (try dsimp only at hS); unfold execOp; simp only [ho]; go_simp; try with_reducible rfl
          try simp only [Act.put, List.setIfInBounds_toArray, List.set_cons_zero, List.set_cons_succ]
          refine held_load_at 3 (some 16) 31 (.tmp 15) (by rfl) (by kernel_rfl) (by kernel_rfl) (by kernel_rfl) ((ad.add (k * 7))) [.int .i64 ver, .int .i64 fr, .int .i64 ti, .int .i64 lo, .int .i64 hi, .slice A2 n2 c2, .int .i64 lev] (fun _ _ _ h => h) (by rfl) (fun _ h => h.1) _ Try.underlying31 rfl (by kernel_rfl) (by assumption) ?_
          try simp only [Act.put, List.setIfInBounds_toArray, List.set_cons_zero, List.set_cons_succ]
          refine held_run 4 (some 17) (.move (.tmp 1)) ?v5_1_4 (by rfl) (by kernel_rfl) (by kernel_rfl) (by kernel_rfl) (fun _ _ _ h => h) (fun o ho w hS => ?y5_1_4) (by assumption) ?r5_1_4
          case y5_1_4 => (try dsimp only at hS); unfold execOp; simp only [ho]; go_simp; try with_reducible rfl
          try simp only [Act.put, List.setIfInBounds_toArray, List.set_cons_zero, List.set_cons_succ]
          refine held_call 5 (some 18) 31 [(.tmp 16), (.tmp 17)] #[31, 3] #[.agg #[.int .i64 ver, .int .i64 fr, .int .i64 ti, .int .i64 lo, .int .i64 hi, .slice A2 n2 c2, .int .i64 lev], .int .i64 t] (by rfl) (by rfl) (by kernel_rfl) Try.func31 (by rfl) (by rfl) ?_
          refine (HCv.out _).mono ?_
          rintro e w2 ⟨rfl, hb2⟩
          have HW2 := Lib.hid ((Below.refl wo.heap.size wo).drew.trans (hb2.mono (Nat.le_refl _)))
          have hH2 : (fun W => (∀ j u, ([.int .i64 ver, .int .i64 fr, .int .i64 ti, .int .i64 lo, .int .i64 hi, .slice A2 n2 c2, .int .i64 lev] : List Value)[j]? = some u → W.cell? ((ad.add (k * 7)).add j) = some u) ∧ W.cell? (ad.add (k * 7)) = some (.int .i64 ver)) w2 := ⟨fun j u hu => (HW2.out.cell (by rw [block_of_add, block_of_add]; exact Nat.lt_of_lt_of_le hab hsz)).trans (HCs.out j u hu), (HW2.out.cell (by rw [block_of_add]; exact Nat.lt_of_lt_of_le hab hsz)).trans c0⟩
          clear hb2
          refine ⟨_, rfl, hH2, ?_⟩
          try simp only [Act.put, List.setIfInBounds_toArray, List.set_cons_zero, List.set_cons_succ]
          refine held_run 6 (some 19) (.move (.tmp 18)) ?v5_1_6 (by rfl) (by kernel_rfl) (by kernel_rfl) (by kernel_rfl) (fun _ _ _ h => h) (fun o ho w hS => ?y5_1_6) (by assumption) ?r5_1_6
          case y5_1_6 => (try dsimp only at hS); unfold execOp; simp only [ho]; go_simp; try with_reducible rfl
          try simp only [Act.put, List.setIfInBounds_toArray, List.set_cons_zero, List.set_cons_succ]
          refine held_run 7 (some 20) (.move (.tmp 0)) ?v5_1_7 (by rfl) (by kernel_rfl) (by kernel_rfl) (by kernel_rfl) (fun _ _ _ h => h) (fun o ho w hS => ?y5_1_7) (by assumption) ?r5_1_7
          case y5_1_7 => (try dsimp only at hS); unfold execOp; simp only [ho]; go_simp; try with_reducible rfl
          try simp only [Act.put, List.setIfInBounds_toArray, List.set_cons_zero, List.set_cons_succ]
          refine held_run 8 (some 21) (.move (.tmp 6)) ?v5_1_8 (by rfl) (by kernel_rfl) (by kernel_rfl) (by kernel_rfl) (fun _ _ _ h => h) (fun o ho w hS => ?y5_1_8) (by assumption) ?r5_1_8
          case y5_1_8 => (try dsimp only at hS); unfold execOp; simp only [ho]; go_simp; try with_reducible rfl
          try simp only [Act.put, List.setIfInBounds_toArray, List.set_cons_zero, List.set_cons_succ]
          refine held_run 9 (some 22) (.indexAddr 22 (.tmp 20) (.tmp 21)) ?v5_1_9 (by rfl) (by kernel_rfl) (by kernel_rfl) (by kernel_rfl) (fun _ _ _ h => h) (fun o ho w hS => ?y5_1_9) (by assumption) ?r5_1_9
          case y5_1_9 => (try dsimp only at hS); unfold execOp; simp only [ho]; go_simp; try with_reducible rfl
          try simp only [Act.put, List.setIfInBounds_toArray, List.set_cons_zero, List.set_cons_succ]
          refine held_run 10 (some 23) (.fieldAddr 31 (.tmp 22) 0) ?v5_1_10 (by rfl) (by kernel_rfl) (by kernel_rfl) (by kernel_rfl) (fun _ _ _ h => h) (fun o ho w hS => ?y5_1_10) (by assumption) ?r5_1_10
          case y5_1_10 => (try dsimp only at hS); unfold execOp; simp only [ho]; go_simp; try with_reducible rfl
          try simp only [Act.put, List.setIfInBounds_toArray, List.set_cons_zero, List.set_cons_succ]
          refine held_run 11 (some 24) (.load 3 (.tmp 23)) ?v5_1_11 (by rfl) (by kernel_rfl) (by kernel_rfl) (by kernel_rfl) (fun _ _ _ h => h) (fun o ho w hS => ?y5_1_11) (by assumption) ?r5_1_11
          case y5_1_11 => (try dsimp only at hS); unfold execOp; simp only [ho]; go_simp; try with_reducible rfl
          try simp only [Act.put, List.setIfInBounds_toArray, List.set_cons_zero, List.set_cons_succ]
          refine held_run 12 (some 25) (.move (.tmp 0)) ?v5_1_12 (by rfl) (by kernel_rfl) (by kernel_rfl) (by kernel_rfl) (fun _ _ _ h => h) (fun o ho w hS => ?y5_1_12) (by assumption) ?r5_1_12
          case y5_1_12 => (try dsimp only at hS); unfold execOp; simp only [ho]; go_simp; try with_reducible rfl
          try simp only [Act.put, List.setIfInBounds_toArray, List.set_cons_zero, List.set_cons_succ]
          refine held_run 13 (some 26) (.move (.tmp 1)) ?v5_1_13 (by rfl) (by kernel_rfl) (by kernel_rfl) (by kernel_rfl) (fun _ _ _ h => h) (fun o ho w hS => ?y5_1_13) (by assumption) ?r5_1_13
          case y5_1_13 => (try dsimp only at hS); unfold execOp; simp only [ho]; go_simp; try with_reducible rfl
          try simp only [Act.put, List.setIfInBounds_toArray, List.set_cons_zero, List.set_cons_succ]
          refine held_call 14 (some 27) 18 [(.tmp 25), (.tmp 26)] #[22, 3] #[.slice (some ad) n c, .int .i64 t] (by rfl) (by rfl) (by kernel_rfl) Try.func18 (by rfl) (by rfl) ?_
          refine (HCu.out _ (HRo.out.now HW2.out)).mono ?_
          rintro e w3 ⟨rfl, hb3⟩
          have HW3 := Lib.hid (HW2.out.trans (hb3.mono HW2.out.size))
          have hH3 : (fun W => (∀ j u, ([.int .i64 ver, .int .i64 fr, .int .i64 ti, .int .i64 lo, .int .i64 hi, .slice A2 n2 c2, .int .i64 lev] : List Value)[j]? = some u → W.cell? ((ad.add (k * 7)).add j) = some u) ∧ W.cell? (ad.add (k * 7)) = some (.int .i64 ver)) w3 := ⟨fun j u hu => (HW3.out.cell (by rw [block_of_add, block_of_add]; exact Nat.lt_of_lt_of_le hab hsz)).trans (HCs.out j u hu), (HW3.out.cell (by rw [block_of_add]; exact Nat.lt_of_lt_of_le hab hsz)).trans c0⟩
          clear hb3
          refine ⟨_, rfl, hH3, ?_⟩
          try simp only [Act.put, List.setIfInBounds_toArray, List.set_cons_zero, List.set_cons_succ]
          refine held_run 15 (some 28) (.binOp .eql 3 (.tmp 24) (.tmp 27) 3) ?v5_1_15 (by rfl) (by kernel_rfl) (by kernel_rfl) (by kernel_rfl) (fun _ _ _ h => h) (fun o ho w hS => ?y5_1_15) (by assumption) ?r5_1_15
          case y5_1_15 => (try dsimp only at hS); unfold execOp; simp only [ho]; go_simp; try with_reducible rfl
          try simp only [Act.put, List.setIfInBounds_toArray, List.set_cons_zero, List.set_cons_succ]
          refine held_run 16 (some 29) (.pick (.tmp 19) (.tmp 28) (.const (Value.bool false))) ?v5_1_16 (by rfl) (by kernel_rfl) (by kernel_rfl) (by kernel_rfl) (fun _ _ _ h => h) (fun o ho w hS => ?y5_1_16) (by assumption) ?r5_1_16
          case y5_1_16 => (try dsimp only at hS); unfold execOp; simp only [ho]; go_simp; try with_reducible rfl
          try simp only [Act.put, List.setIfInBounds_toArray, List.set_cons_zero, List.set_cons_succ]
          refine wpAnyH_done (by kernel_rfl) ?_ _
          have HBB3 := Lib.hid (HB.out.trans (HW3.out.mono hsz))
          have c6 : w3.cell? ⟨(ad.add (k * 7)).block, (ad.add (k * 7)).off + 6, none⟩ = some (.int .i64 lev) := (HW3.out.cell (p := (ad.add (k * 7)).add 6) (by rw [block_of_add, block_of_add]; exact Nat.lt_of_lt_of_le hab hsz)).trans (HCs.out 6 _ rfl)
          clear hcd c0
          by_cases hv : v < lev
          · have HN : Hid (levF (countB cv t) 0 (bs.take (k + 1)) = lev) := hide (HSn.out.trans (if_pos ⟨HTr.out, hv⟩))
            have dm : max v lev = lev := by omega
            go_wp2_with fail
            go_roundw
            case rel => exact ⟨k + 1, by omega, by go_num, by rw [HN.out], HBB3.out⟩
            case measure => simp [intOf]; omega
          · have HN : Hid (levF (countB cv t) 0 (bs.take (k + 1)) = v) := hide (HSn.out.trans (if_neg (fun h => hv h.2)))
            have dm : max v lev = v := by omega
            go_wp2_with fail
            go_roundw
            case rel => exact ⟨k + 1, by omega, by go_num, by rw [HN.out], HBB3.out⟩
            case measure => simp [intOf]; omega
        · have HTr : Hid ((decide (ver = cv) && true) = false) := by show _ = _; simp [hvv]
          have dvv : (ver == cv) = false := beq_eq_false_iff_ne.2 hvv
          clear hvv
          refine wp_region_held_drew (S := fun W => (∀ j u, ([.int .i64 ver, .int .i64 fr, .int .i64 ti, .int .i64 lo, .int .i64 hi, .slice A2 n2 c2, .int .i64 lev] : List Value)[j]? = some u → W.cell? ((ad.add (k * 7)).add j) = some u) ∧ W.cell? (ad.add (k * 7)) = some (.int .i64 ver)) (by kernel_rfl) (⟨hcd, c0⟩) (fun hHeld => ?_)
          refine held_run 0 (some 13) (.move (.tmp 0)) ?v5_2_0 (by rfl) (by kernel_rfl) (by kernel_rfl) (by kernel_rfl) (fun _ _ _ h => h) (fun o ho w hS => ?y5_2_0) (by assumption) ?r5_2_0
          case y5_2_0 => (try dsimp only at hS); unfold execOp; simp only [ho]; go_simp; try with_reducible rfl
          try simp only [Act.put, List.setIfInBounds_toArray, List.set_cons_zero, List.set_cons_succ]
          refine held_run 1 (some 14) (.move (.tmp 6)) ?v5_2_1 (by rfl) (by kernel_rfl) (by kernel_rfl) (by kernel_rfl) (fun _ _ _ h => h) (fun o ho w hS => ?y5_2_1) (by assumption) ?r5_2_1
          case y5_2_1 => (try dsimp only at hS); unfold execOp; simp only [ho]; go_simp; try with_reducible rfl
          try simp only [Act.put, List.setIfInBounds_toArray, List.set_cons_zero, List.set_cons_succ]
          refine held_run 2 (some 15) (.indexAddr 22 (.tmp 13) (.tmp 14)) ?v5_2_2 (by rfl) (by kernel_rfl) (by kernel_rfl) (by kernel_rfl) (fun _ _ _ h => h) (fun o ho w hS => ?y5_2_2) (by assumption) ?r5_2_2
          case y5_2_2 => (try dsimp only at hS); unfold execOp; simp only [ho]; go_simp; try with_reducible rfl
          try simp only [Act.put, List.setIfInBounds_toArray, List.set_cons_zero, List.set_cons_succ]
          refine held_load_at 3 (some 16) 31 (.tmp 15) (by rfl) (by kernel_rfl) (by kernel_rfl) (by kernel_rfl) ((ad.add (k * 7))) [.int .i64 ver, .int .i64 fr, .int .i64 ti, .int .i64 lo, .int .i64 hi, .slice A2 n2 c2, .int .i64 lev] (fun _ _ _ h => h) (by rfl) (fun _ h => h.1) _ Try.underlying31 rfl (by kernel_rfl) (by assumption) ?_
          try simp only [Act.put, List.setIfInBounds_toArray, List.set_cons_zero, List.set_cons_succ]
          refine held_run 4 (some 17) (.move (.tmp 1)) ?v5_2_4 (by rfl) (by kernel_rfl) (by kernel_rfl) (by kernel_rfl) (fun _ _ _ h => h) (fun o ho w hS => ?y5_2_4) (by assumption) ?r5_2_4
          case y5_2_4 => (try dsimp only at hS); unfold execOp; simp only [ho]; go_simp; try with_reducible rfl
          try simp only [Act.put, List.setIfInBounds_toArray, List.set_cons_zero, List.set_cons_succ]
          refine held_call 5 (some 18) 31 [(.tmp 16), (.tmp 17)] #[31, 3] #[.agg #[.int .i64 ver, .int .i64 fr, .int .i64 ti, .int .i64 lo, .int .i64 hi, .slice A2 n2 c2, .int .i64 lev], .int .i64 t] (by rfl) (by rfl) (by kernel_rfl) Try.func31 (by rfl) (by rfl) ?_
          refine (HCv.out _).mono ?_
          rintro e w2 ⟨rfl, hb2⟩
          have HW2 := Lib.hid ((Below.refl wo.heap.size wo).drew.trans (hb2.mono (Nat.le_refl _)))
          have hH2 : (fun W => (∀ j u, ([.int .i64 ver, .int .i64 fr, .int .i64 ti, .int .i64 lo, .int .i64 hi, .slice A2 n2 c2, .int .i64 lev] : List Value)[j]? = some u → W.cell? ((ad.add (k * 7)).add j) = some u) ∧ W.cell? (ad.add (k * 7)) = some (.int .i64 ver)) w2 := ⟨fun j u hu => (HW2.out.cell (by rw [block_of_add, block_of_add]; exact Nat.lt_of_lt_of_le hab hsz)).trans (HCs.out j u hu), (HW2.out.cell (by rw [block_of_add]; exact Nat.lt_of_lt_of_le hab hsz)).trans c0⟩
          clear hb2
          refine ⟨_, rfl, hH2, ?_⟩
          try simp only [Act.put, List.setIfInBounds_toArray, List.set_cons_zero, List.set_cons_succ]
          refine held_run 6 (some 19) (.move (.tmp 18)) ?v5_2_6 (by rfl) (by kernel_rfl) (by kernel_rfl) (by kernel_rfl) (fun _ _ _ h => h) (fun o ho w hS => ?y5_2_6) (by assumption) ?r5_2_6
          case y5_2_6 => (try dsimp only at hS); unfold execOp; simp only [ho]; go_simp; try with_reducible rfl
          try simp only [Act.put, List.setIfInBounds_toArray, List.set_cons_zero, List.set_cons_succ]
          refine held_run 7 (some 20) (.move (.tmp 0)) ?v5_2_7 (by rfl) (by kernel_rfl) (by kernel_rfl) (by kernel_rfl) (fun _ _ _ h => h) (fun o ho w hS => ?y5_2_7) (by assumption) ?r5_2_7
          case y5_2_7 => (try dsimp only at hS); unfold execOp; simp only [ho]; go_simp; try with_reducible rfl
          try simp only [Act.put, List.setIfInBounds_toArray, List.set_cons_zero, List.set_cons_succ]
          refine held_run 8 (some 21) (.move (.tmp 6)) ?v5_2_8 (by rfl) (by kernel_rfl) (by kernel_rfl) (by kernel_rfl) (fun _ _ _ h => h) (fun o ho w hS => ?y5_2_8) (by assumption) ?r5_2_8
          case y5_2_8 => (try dsimp only at hS); unfold execOp; simp only [ho]; go_simp; try with_reducible rfl
          try simp only [Act.put, List.setIfInBounds_toArray, List.set_cons_zero, List.set_cons_succ]
          refine held_run 9 (some 22) (.indexAddr 22 (.tmp 20) (.tmp 21)) ?v5_2_9 (by rfl) (by kernel_rfl) (by kernel_rfl) (by kernel_rfl) (fun _ _ _ h => h) (fun o ho w hS => ?y5_2_9) (by assumption) ?r5_2_9
          case y5_2_9 => (try dsimp only at hS); unfold execOp; simp only [ho]; go_simp; try with_reducible rfl
          try simp only [Act.put, List.setIfInBounds_toArray, List.set_cons_zero, List.set_cons_succ]
          refine held_run 10 (some 23) (.fieldAddr 31 (.tmp 22) 0) ?v5_2_10 (by rfl) (by kernel_rfl) (by kernel_rfl) (by kernel_rfl) (fun _ _ _ h => h) (fun o ho w hS => ?y5_2_10) (by assumption) ?r5_2_10
          case y5_2_10 => (try dsimp only at hS); unfold execOp; simp only [ho]; go_simp; try with_reducible rfl
          try simp only [Act.put, List.setIfInBounds_toArray, List.set_cons_zero, List.set_cons_succ]
          refine held_run 11 (some 24) (.load 3 (.tmp 23)) ?v5_2_11 (by rfl) (by kernel_rfl) (by kernel_rfl) (by kernel_rfl) (fun _ _ _ h => h) (fun o ho w hS => ?y5_2_11) (by assumption) ?r5_2_11
          case y5_2_11 => (try dsimp only at hS); unfold execOp; simp only [ho]; go_simp; try with_reducible rfl
          try simp only [Act.put, List.setIfInBounds_toArray, List.set_cons_zero, List.set_cons_succ]
          refine held_run 12 (some 25) (.move (.tmp 0)) ?v5_2_12 (by rfl) (by kernel_rfl) (by kernel_rfl) (by kernel_rfl) (fun _ _ _ h => h) (fun o ho w hS => ?y5_2_12) (by assumption) ?r5_2_12
          case y5_2_12 => (try dsimp only at hS); unfold execOp; simp only [ho]; go_simp; try with_reducible rfl
          try simp only [Act.put, List.setIfInBounds_toArray, List.set_cons_zero, List.set_cons_succ]
          refine held_run 13 (some 26) (.move (.tmp 1)) ?v5_2_13 (by rfl) (by kernel_rfl) (by kernel_rfl) (by kernel_rfl) (fun _ _ _ h => h) (fun o ho w hS => ?y5_2_13) (by assumption) ?r5_2_13
          case y5_2_13 => (try dsimp only at hS); unfold execOp; simp only [ho]; go_simp; try with_reducible rfl
          try simp only [Act.put, List.setIfInBounds_toArray, List.set_cons_zero, List.set_cons_succ]
          refine held_call 14 (some 27) 18 [(.tmp 25), (.tmp 26)] #[22, 3] #[.slice (some ad) n c, .int .i64 t] (by rfl) (by rfl) (by kernel_rfl) Try.func18 (by rfl) (by rfl) ?_
          refine (HCu.out _ (HRo.out.now HW2.out)).mono ?_
          rintro e w3 ⟨rfl, hb3⟩
          have HW3 := Lib.hid (HW2.out.trans (hb3.mono HW2.out.size))
          have hH3 : (fun W => (∀ j u, ([.int .i64 ver, .int .i64 fr, .int .i64 ti, .int .i64 lo, .int .i64 hi, .slice A2 n2 c2, .int .i64 lev] : List Value)[j]? = some u → W.cell? ((ad.add (k * 7)).add j) = some u) ∧ W.cell? (ad.add (k * 7)) = some (.int .i64 ver)) w3 := ⟨fun j u hu => (HW3.out.cell (by rw [block_of_add, block_of_add]; exact Nat.lt_of_lt_of_le hab hsz)).trans (HCs.out j u hu), (HW3.out.cell (by rw [block_of_add]; exact Nat.lt_of_lt_of_le hab hsz)).trans c0⟩
          clear hb3
          refine ⟨_, rfl, hH3, ?_⟩
          try simp only [Act.put, List.setIfInBounds_toArray, List.set_cons_zero, List.set_cons_succ]
          refine held_run 15 (some 28) (.binOp .eql 3 (.tmp 24) (.tmp 27) 3) ?v5_2_15 (by rfl) (by kernel_rfl) (by kernel_rfl) (by kernel_rfl) (fun _ _ _ h => h) (fun o ho w hS => ?y5_2_15) (by assumption) ?r5_2_15
          case y5_2_15 => (try dsimp only at hS); unfold execOp; simp only [ho]; go_simp; try with_reducible rfl
          try simp only [Act.put, List.setIfInBounds_toArray, List.set_cons_zero, List.set_cons_succ]
          refine held_run 16 (some 29) (.pick (.tmp 19) (.tmp 28) (.const (Value.bool false))) ?v5_2_16 (by rfl) (by kernel_rfl) (by kernel_rfl) (by kernel_rfl) (fun _ _ _ h => h) (fun o ho w hS => ?y5_2_16) (by assumption) ?r5_2_16
          case y5_2_16 => (try dsimp only at hS); unfold execOp; simp only [ho]; go_simp; try with_reducible rfl
          try simp only [Act.put, List.setIfInBounds_toArray, List.set_cons_zero, List.set_cons_succ]
          refine wpAnyH_done (by kernel_rfl) ?_ _
          have HBB3 := Lib.hid (HB.out.trans (HW3.out.mono hsz))
          have c6 : w3.cell? ⟨(ad.add (k * 7)).block, (ad.add (k * 7)).off + 6, none⟩ = some (.int .i64 lev) := (HW3.out.cell (p := (ad.add (k * 7)).add 6) (by rw [block_of_add, block_of_add]; exact Nat.lt_of_lt_of_le hab hsz)).trans (HCs.out 6 _ rfl)
          clear hcd c0
          have HN : Hid (levF (countB cv t) 0 (bs.take (k + 1)) = v) := hide (HSn.out.trans (if_neg (fun h => by rw [HTr.out] at h; cases h.1)))
          go_wp2_with fail
          go_roundw
          case rel => exact ⟨k + 1, by omega, by go_num, by rw [HN.out], HBB3.out⟩
          case measure => simp [intOf]; omega
      | false =>
        refine wp_region_held_drew (S := fun W => (∀ j u, ([.int .i64 ver, .int .i64 fr, .int .i64 ti, .int .i64 lo, .int .i64 hi, .slice A2 n2 c2, .int .i64 lev] : List Value)[j]? = some u → W.cell? ((ad.add (k * 7)).add j) = some u) ∧ W.cell? (ad.add (k * 7)) = some (.int .i64 ver)) (by kernel_rfl) (⟨hcd, c0⟩) (fun hHeld => ?_)
        refine held_run 0 (some 13) (.move (.tmp 0)) ?v5_3_0 (by rfl) (by kernel_rfl) (by kernel_rfl) (by kernel_rfl) (fun _ _ _ h => h) (fun o ho w hS => ?y5_3_0) (by assumption) ?r5_3_0
        case y5_3_0 => (try dsimp only at hS); unfold execOp; simp only [ho]; go_simp; try with_reducible rfl
        try simp only [Act.put, List.setIfInBounds_toArray, List.set_cons_zero, List.set_cons_succ]
        refine held_run 1 (some 14) (.move (.tmp 6)) ?v5_3_1 (by rfl) (by kernel_rfl) (by kernel_rfl) (by kernel_rfl) (fun _ _ _ h => h) (fun o ho w hS => ?y5_3_1) (by assumption) ?r5_3_1
        case y5_3_1 => (try dsimp only at hS); unfold execOp; simp only [ho]; go_simp; try with_reducible rfl
        try simp only [Act.put, List.setIfInBounds_toArray, List.set_cons_zero, List.set_cons_succ]
        refine held_run 2 (some 15) (.indexAddr 22 (.tmp 13) (.tmp 14)) ?v5_3_2 (by rfl) (by kernel_rfl) (by kernel_rfl) (by kernel_rfl) (fun _ _ _ h => h) (fun o ho w hS => ?y5_3_2) (by assumption) ?r5_3_2
        case y5_3_2 => (try dsimp only at hS); unfold execOp; simp only [ho]; go_simp; try with_reducible rfl
        try simp only [Act.put, List.setIfInBounds_toArray, List.set_cons_zero, List.set_cons_succ]
        refine held_load_at 3 (some 16) 31 (.tmp 15) (by rfl) (by kernel_rfl) (by kernel_rfl) (by kernel_rfl) ((ad.add (k * 7))) [.int .i64 ver, .int .i64 fr, .int .i64 ti, .int .i64 lo, .int .i64 hi, .slice A2 n2 c2, .int .i64 lev] (fun _ _ _ h => h) (by rfl) (fun _ h => h.1) _ Try.underlying31 rfl (by kernel_rfl) (by assumption) ?_
        try simp only [Act.put, List.setIfInBounds_toArray, List.set_cons_zero, List.set_cons_succ]
        refine held_run 4 (some 17) (.move (.tmp 1)) ?v5_3_4 (by rfl) (by kernel_rfl) (by kernel_rfl) (by kernel_rfl) (fun _ _ _ h => h) (fun o ho w hS => ?y5_3_4) (by assumption) ?r5_3_4
        case y5_3_4 => (try dsimp only at hS); unfold execOp; simp only [ho]; go_simp; try with_reducible rfl
        try simp only [Act.put, List.setIfInBounds_toArray, List.set_cons_zero, List.set_cons_succ]
        refine held_call 5 (some 18) 31 [(.tmp 16), (.tmp 17)] #[31, 3] #[.agg #[.int .i64 ver, .int .i64 fr, .int .i64 ti, .int .i64 lo, .int .i64 hi, .slice A2 n2 c2, .int .i64 lev], .int .i64 t] (by rfl) (by rfl) (by kernel_rfl) Try.func31 (by rfl) (by rfl) ?_
        refine (HCv.out _).mono ?_
        rintro e w2 ⟨rfl, hb2⟩
        have HW2 := Lib.hid ((Below.refl wo.heap.size wo).drew.trans (hb2.mono (Nat.le_refl _)))
        have hH2 : (fun W => (∀ j u, ([.int .i64 ver, .int .i64 fr, .int .i64 ti, .int .i64 lo, .int .i64 hi, .slice A2 n2 c2, .int .i64 lev] : List Value)[j]? = some u → W.cell? ((ad.add (k * 7)).add j) = some u) ∧ W.cell? (ad.add (k * 7)) = some (.int .i64 ver)) w2 := ⟨fun j u hu => (HW2.out.cell (by rw [block_of_add, block_of_add]; exact Nat.lt_of_lt_of_le hab hsz)).trans (HCs.out j u hu), (HW2.out.cell (by rw [block_of_add]; exact Nat.lt_of_lt_of_le hab hsz)).trans c0⟩
        clear hb2
        refine ⟨_, rfl, hH2, ?_⟩
        try simp only [Act.put, List.setIfInBounds_toArray, List.set_cons_zero, List.set_cons_succ]
        refine held_run 6 (some 19) (.move (.tmp 18)) ?v5_3_6 (by rfl) (by kernel_rfl) (by kernel_rfl) (by kernel_rfl) (fun _ _ _ h => h) (fun o ho w hS => ?y5_3_6) (by assumption) ?r5_3_6
        case y5_3_6 => (try dsimp only at hS); unfold execOp; simp only [ho]; go_simp; try with_reducible rfl
        try simp only [Act.put, List.setIfInBounds_toArray, List.set_cons_zero, List.set_cons_succ]
        refine held_skip 7 (some 20) (by rfl) (by kernel_rfl) (by kernel_rfl) (by kernel_rfl) (fun _ _ _ h => h) (by assumption) ?_
        try simp only [Act.put, List.setIfInBounds_toArray, List.set_cons_zero, List.set_cons_succ]
        refine held_skip 8 (some 21) (by rfl) (by kernel_rfl) (by kernel_rfl) (by kernel_rfl) (fun _ _ _ h => h) (by assumption) ?_
        try simp only [Act.put, List.setIfInBounds_toArray, List.set_cons_zero, List.set_cons_succ]
        refine held_skip 9 (some 22) (by rfl) (by kernel_rfl) (by kernel_rfl) (by kernel_rfl) (fun _ _ _ h => h) (by assumption) ?_
        try simp only [Act.put, List.setIfInBounds_toArray, List.set_cons_zero, List.set_cons_succ]
        refine held_skip 10 (some 23) (by rfl) (by kernel_rfl) (by kernel_rfl) (by kernel_rfl) (fun _ _ _ h => h) (by assumption) ?_
        try simp only [Act.put, List.setIfInBounds_toArray, List.set_cons_zero, List.set_cons_succ]
        refine held_skip 11 (some 24) (by rfl) (by kernel_rfl) (by kernel_rfl) (by kernel_rfl) (fun _ _ _ h => h) (by assumption) ?_
        try simp only [Act.put, List.setIfInBounds_toArray, List.set_cons_zero, List.set_cons_succ]
        refine held_skip 12 (some 25) (by rfl) (by kernel_rfl) (by kernel_rfl) (by kernel_rfl) (fun _ _ _ h => h) (by assumption) ?_
        try simp only [Act.put, List.setIfInBounds_toArray, List.set_cons_zero, List.set_cons_succ]
        refine held_skip 13 (some 26) (by rfl) (by kernel_rfl) (by kernel_rfl) (by kernel_rfl) (fun _ _ _ h => h) (by assumption) ?_
        try simp only [Act.put, List.setIfInBounds_toArray, List.set_cons_zero, List.set_cons_succ]
        refine held_skip 14 (some 27) (by rfl) (by kernel_rfl) (by kernel_rfl) (by kernel_rfl) (fun _ _ _ h => h) (by assumption) ?_
        try simp only [Act.put, List.setIfInBounds_toArray, List.set_cons_zero, List.set_cons_succ]
        refine held_skip 15 (some 28) (by rfl) (by kernel_rfl) (by kernel_rfl) (by kernel_rfl) (fun _ _ _ h => h) (by assumption) ?_
        try simp only [Act.put, List.setIfInBounds_toArray, List.set_cons_zero, List.set_cons_succ]
        refine held_run 16 (some 29) (.pick (.tmp 19) (.tmp 28) (.const (Value.bool false))) ?v5_3_16 (by rfl) (by kernel_rfl) (by kernel_rfl) (by kernel_rfl) (fun _ _ _ h => h) (fun o ho w hS => ?y5_3_16) (by assumption) ?r5_3_16
        case y5_3_16 => (try dsimp only at hS); unfold execOp; simp only [ho]; go_simp; try with_reducible rfl
        try simp only [Act.put, List.setIfInBounds_toArray, List.set_cons_zero, List.set_cons_succ]
        refine wpAnyH_done (by kernel_rfl) ?_ _
        have HBB2 := Lib.hid (HB.out.trans (HW2.out.mono hsz))
        clear hcd c0
        have HN : Hid (levF (countB cv t) 0 (bs.take (k + 1)) = v) := hide (HSn.out.trans (if_neg (fun h => by rw [Bool.and_false] at h; cases h.1)))
        go_wp2_with fail
        go_roundw
        case rel => exact ⟨k + 1, by omega, by go_num, by rw [HN.out], HBB2.out⟩
        case measure => simp [intOf]; omega
    · obtain rfl : k = n := by omega
      rw [List.take_of_length_le (by rw [HL.out]; exact Nat.le_refl _)]
      go_wp2_with fail
      go_ret
      exact ⟨rfl, HB.out⟩
set_option maxRecDepth 100000 in
set_option maxHeartbeats 2000000 in
theorem rlvl_any (A : Option Addr) (n c : Nat) (bs : List Bu) (zone low high t : Int) (w : World) (hr : Buls w w.heap.size A n bs) (hn : n ≤ maxLen) :
    Calls Try.prog 20 #[.slice A n c, .int .i64 zone, .int .i64 low, .int .i64 high, .int .i64 t] w fun e w' => e = .returned (.int .i64 (levN bs zone low high t)) ∧ Below w.heap.size w w' := by
  unfold maxLen at hn
  have HR := Lib.hid hr
  have HL := Lib.hid hr.len
  clear hr
  obtain ⟨cv, hcv⟩ : ∃ cv, curN bs t = cv := ⟨_, rfl⟩
  have HCu : Hid (∀ W : World, Buls W W.heap.size A n bs → Calls Try.prog 18 #[.slice A n c, .int .i64 t] W fun e w' => e = .returned (.int .i64 cv) ∧ Below W.heap.size W w') := by
    intro W hW
    rw [← hcv]
    exact rcur_any A n c bs t W hW (by simpa only [maxLen] using hn)
  rw [show levN bs zone low high t = levF (placeB cv zone low high t) 0 bs by rw [levN, hcv]]
  clear hcv
  go_enter Try.func20, Try.ntmps20
  go_wp2_with fail
  go_loopw [11, 12] (fun v i wr => ∃ (k : Nat), k ≤ n ∧ i = .int .i64 k ∧ v = .int .i64 (levF (placeB cv zone low high t) 0 (bs.take k)) ∧ Below w.heap.size w wr) (fun _ i _ => n - (intOf i).toNat)
  case atStart => exact ⟨0, by omega, rfl, rfl, Below.refl _ _⟩
  case round =>
    obtain ⟨k, hk, rfl, rfl, hbr⟩ := hrel
    obtain ⟨wo, rfl⟩ : ∃ wo : World, wo = wr := ⟨_, rfl⟩
    have HB := Lib.hid hbr
    have hsz := hbr.size
    clear hbr
    by_cases hlt : k < n
    · have HRo := Lib.hid (HR.out.now HB.out)
      obtain ⟨ad, z, rfl, hab, hcs, hrow⟩ := (HR.out.below HB.out).at_ hlt
      have HTk := Lib.hid (bu_take bs k (by rw [HL.out]; exact hlt))
      have HSn := Lib.hid (levF_snoc (placeB cv zone low high t) 0 (bs.take k) (bs.getD k ⟨0, 0, 0, 0, 0, 0, []⟩))
      rw [← HTk.out] at HSn
      generalize bs.getD k ⟨0, 0, 0, 0, 0, 0, []⟩ = b at *
      obtain ⟨ver, fr, ti, lo, hi, lev, zs⟩ := b
      obtain ⟨A2, c2, rfl, hz1, hz2, hzr⟩ := hrow
      obtain ⟨n2, hn2⟩ : ∃ n2, zs.length = n2 := ⟨_, rfl⟩
      rw [hn2] at hz1 hzr hcs
      have HCs := Lib.hid hcs
      have HZr := Lib.hid hzr
      have HM2 := Lib.hid (Nat.le_trans hz1 hz2)
      clear hcs hzr hn2 hz2
      generalize levF (placeB cv zone low high t) 0 (bs.take k) = v at *
      obtain ⟨q, hq⟩ : ∃ q, hasB ⟨ver, fr, ti, lo, hi, lev, zs⟩ t = q := ⟨_, rfl⟩
      obtain ⟨cc, hc⟩ : ∃ cc, zs.contains zone = cc := ⟨_, rfl⟩
      have HCv : Hid (∀ W : World, Calls Try.prog 31 #[.agg #[.int .i64 ver, .int .i64 fr, .int .i64 ti, .int .i64 lo, .int .i64 hi, .slice A2 n2 c2, .int .i64 lev], .int .i64 t] W fun e w' => e = .returned (.bool q) ∧ Below W.heap.size W w') := by
        intro W
        have h := covers_any ⟨ver, fr, ti, lo, hi, lev, zs⟩ (.slice A2 n2 c2) rfl t W
        rw [hq] at h
        exact h
      have HCt : Hid (∀ W : World, Ints W w.heap.size A2 n2 zs → Calls Try.prog 32 #[.slice A2 n2 c2, .int .i64 zone] W fun e w' => e = .returned (.bool cc) ∧ W = w') := fun W hW => rhas_any _ _ _ _ zs zone cc W hW HM2.out hc
      have hpl : placeB cv zone low high t ⟨ver, fr, ti, lo, hi, lev, zs⟩ = (decide (ver = cv) && q && cc && decide (lo < high) && decide (low < hi)) := by
        show (decide (ver = cv) && hasB ⟨ver, fr, ti, lo, hi, lev, zs⟩ t && zs.contains zone && decide (lo < high) && decide (low < hi)) = _
        rw [hq, hc]
      rw [hpl] at HSn
      clear hq hc hpl
      go_wp2_with
        (first
         | (refine wpList_load_at 31 (.tmp 22) rfl rfl (ad.add (k * 7)) rfl [.int .i64 ver, .int .i64 fr, .int .i64 ti, .int .i64 lo, .int .i64 hi, .slice A2 n2 c2, .int .i64 lev] HCs.out _ Try.underlying31 rfl (by kernel_rfl) ?_)
         | (refine wpList_store_blk rfl 31 (.tmp 13) (.tmp 23) rfl wo.heap.size #[.int .i64 ver, .int .i64 fr, .int .i64 ti, .int .i64 lo, .int .i64 hi, .slice A2 n2 c2, .int .i64 lev] rfl rfl _ _ (Blk.new wo 31 #[.int .i64 0, .int .i64 0, .int .i64 0, .int .i64 0, .int .i64 0, .slice none 0 0, .int .i64 0]) (by kernel_rfl) rfl (by simp [Value.oneCell']) ?_
            intro w1 hx1 hon1
            have hb1 := hon1.below (below_new wo (.cells #[.int .i64 0, .int .i64 0, .int .i64 0, .int .i64 0, .int .i64 0, .slice none 0 0, .int .i64 0] 31)) (Nat.le_refl _)
            have HB1 := Lib.hid hb1
            have HX1 := Lib.hid hx1
            have hl1 : wo.heap.size < w1.heap.size := hx1.lt
            have HBB1 := Lib.hid (HB.out.trans (HB1.out.mono hsz))
            have e0 : w1.cell? ⟨wo.heap.size, 0, none⟩ = some (.int .i64 ver) := HX1.out.cell 0
            have e1 : w1.cell? ⟨wo.heap.size, 1, none⟩ = some (.int .i64 fr) := HX1.out.cell 1
            have e2 : w1.cell? ⟨wo.heap.size, 2, none⟩ = some (.int .i64 ti) := HX1.out.cell 2
            have e3 : w1.cell? ⟨wo.heap.size, 3, none⟩ = some (.int .i64 lo) := HX1.out.cell 3
            have e4 : w1.cell? ⟨wo.heap.size, 4, none⟩ = some (.int .i64 hi) := HX1.out.cell 4
            have e5 : w1.cell? ⟨wo.heap.size, 5, none⟩ = some (.slice A2 n2 c2) := HX1.out.cell 5
            have e6 : w1.cell? ⟨wo.heap.size, 6, none⟩ = some (.int .i64 lev) := HX1.out.cell 6
            clear hx1 hon1 hb1))
      cases q with
      | true =>
        by_cases hvv : ver = cv
        · have dvv : (ver == cv) = true := beq_iff_eq.2 hvv
          have dv2 : decide (ver = cv) = true := decide_eq_true hvv
          rw [dv2] at HSn
          clear hvv dv2
          cases cc with
          | true =>
            by_cases h1 : lo < high
            · by_cases h2 : low < hi
              · have HTr : Hid ((true && true && true && decide (lo < high) && decide (low < hi)) = true) := by show _ = _; simp [h1, h2]
                refine wp_region_held_drew (S := fun W => Blk W wo.heap.size 31 #[.int .i64 ver, .int .i64 fr, .int .i64 ti, .int .i64 lo, .int .i64 hi, .slice A2 n2 c2, .int .i64 lev] ∧ W.cell? ⟨wo.heap.size, 0, none⟩ = some (.int .i64 ver) ∧ W.cell? ⟨wo.heap.size, 3, none⟩ = some (.int .i64 lo) ∧ W.cell? ⟨wo.heap.size, 4, none⟩ = some (.int .i64 hi) ∧ W.cell? ⟨wo.heap.size, 5, none⟩ = some (.slice A2 n2 c2)) (by kernel_rfl) (⟨HX1.out.drew, HX1.out.drew.cell 0, HX1.out.drew.cell 3, HX1.out.drew.cell 4, HX1.out.drew.cell 5⟩) (fun hHeld => ?_)
                refine held_load 0 (some 24) 31 (.tmp 13) (by rfl) (by kernel_rfl) (by kernel_rfl) (by kernel_rfl) (wo.heap.size) 31 #[.int .i64 ver, .int .i64 fr, .int .i64 ti, .int .i64 lo, .int .i64 hi, .slice A2 n2 c2, .int .i64 lev] (fun _ _ _ h => h) (by rfl) (fun _ h => h.1) _ Try.underlying31 rfl (by kernel_rfl) (by assumption) ?_
                try simp only [Act.put, List.setIfInBounds_toArray, List.set_cons_zero, List.set_cons_succ]
                refine held_run 1 (some 25) (.move (.tmp 4)) ?v6_4_1 (by rfl) (by kernel_rfl) (by kernel_rfl) (by kernel_rfl) (fun _ _ _ h => h) (fun o ho w hS => ?y6_4_1) (by assumption) ?r6_4_1
                case y6_4_1 => (try dsimp only at hS); unfold execOp; simp only [ho]; go_simp; try with_reducible rfl
                try simp only [Act.put, List.setIfInBounds_toArray, List.set_cons_zero, List.set_cons_succ]
                refine held_call 2 (some 26) 31 [(.tmp 24), (.tmp 25)] #[31, 3] #[.agg #[.int .i64 ver, .int .i64 fr, .int .i64 ti, .int .i64 lo, .int .i64 hi, .slice A2 n2 c2, .int .i64 lev], .int .i64 t] (by rfl) (by rfl) (by kernel_rfl) Try.func31 (by rfl) (by rfl) ?_
                refine (HCv.out _).mono ?_
                rintro e w2 ⟨rfl, hb2⟩
                have HW2 := Lib.hid (HB1.out.drew.trans (hb2.mono HB1.out.size))
                have HX2 := Lib.hid (HX1.out.drew.below hb2 hl1)
                have hl2 := Nat.lt_of_lt_of_le hl1 hb2.size
                have hH2 : (fun W => Blk W wo.heap.size 31 #[.int .i64 ver, .int .i64 fr, .int .i64 ti, .int .i64 lo, .int .i64 hi, .slice A2 n2 c2, .int .i64 lev] ∧ W.cell? ⟨wo.heap.size, 0, none⟩ = some (.int .i64 ver) ∧ W.cell? ⟨wo.heap.size, 3, none⟩ = some (.int .i64 lo) ∧ W.cell? ⟨wo.heap.size, 4, none⟩ = some (.int .i64 hi) ∧ W.cell? ⟨wo.heap.size, 5, none⟩ = some (.slice A2 n2 c2)) w2 := ⟨HX2.out, HX2.out.cell 0, HX2.out.cell 3, HX2.out.cell 4, HX2.out.cell 5⟩
                clear hb2
                refine ⟨_, rfl, hH2, ?_⟩
                try simp only [Act.put, List.setIfInBounds_toArray, List.set_cons_zero, List.set_cons_succ]
                refine held_run 3 (some 27) (.move (.tmp 26)) ?v6_4_3 (by rfl) (by kernel_rfl) (by kernel_rfl) (by kernel_rfl) (fun _ _ _ h => h) (fun o ho w hS => ?y6_4_3) (by assumption) ?r6_4_3
                case y6_4_3 => (try dsimp only at hS); unfold execOp; simp only [ho]; go_simp; try with_reducible rfl
                try simp only [Act.put, List.setIfInBounds_toArray, List.set_cons_zero, List.set_cons_succ]
                refine held_run 4 (some 28) (.fieldAddr 31 (.tmp 13) 0) ?v6_4_4 (by rfl) (by kernel_rfl) (by kernel_rfl) (by kernel_rfl) (fun _ _ _ h => h) (fun o ho w hS => ?y6_4_4) (by assumption) ?r6_4_4
                case y6_4_4 => (try dsimp only at hS); unfold execOp; simp only [ho]; go_simp; try with_reducible rfl
                try simp only [Act.put, List.setIfInBounds_toArray, List.set_cons_zero, List.set_cons_succ]
                refine held_run 5 (some 29) (.load 3 (.tmp 28)) ?v6_4_5 (by rfl) (by kernel_rfl) (by kernel_rfl) (by kernel_rfl) (fun _ _ _ h => h) (fun o ho w hS => ?y6_4_5) (by assumption) ?r6_4_5
                case y6_4_5 => (try dsimp only at hS); unfold execOp; simp only [ho]; go_simp; try with_reducible rfl
                try simp only [Act.put, List.setIfInBounds_toArray, List.set_cons_zero, List.set_cons_succ]
                refine held_run 6 (some 30) (.move (.tmp 0)) ?v6_4_6 (by rfl) (by kernel_rfl) (by kernel_rfl) (by kernel_rfl) (fun _ _ _ h => h) (fun o ho w hS => ?y6_4_6) (by assumption) ?r6_4_6
                case y6_4_6 => (try dsimp only at hS); unfold execOp; simp only [ho]; go_simp; try with_reducible rfl
                try simp only [Act.put, List.setIfInBounds_toArray, List.set_cons_zero, List.set_cons_succ]
                refine held_run 7 (some 31) (.move (.tmp 4)) ?v6_4_7 (by rfl) (by kernel_rfl) (by kernel_rfl) (by kernel_rfl) (fun _ _ _ h => h) (fun o ho w hS => ?y6_4_7) (by assumption) ?r6_4_7
                case y6_4_7 => (try dsimp only at hS); unfold execOp; simp only [ho]; go_simp; try with_reducible rfl
                try simp only [Act.put, List.setIfInBounds_toArray, List.set_cons_zero, List.set_cons_succ]
                refine held_call 8 (some 32) 18 [(.tmp 30), (.tmp 31)] #[22, 3] #[.slice (some ad) n c, .int .i64 t] (by rfl) (by rfl) (by kernel_rfl) Try.func18 (by rfl) (by rfl) ?_
                refine (HCu.out _ (HRo.out.now HW2.out)).mono ?_
                rintro e w3 ⟨rfl, hb3⟩
                have HW3 := Lib.hid (HW2.out.trans (hb3.mono HW2.out.size))
                have HX3 := Lib.hid (HX2.out.below hb3 hl2)
                have hl3 := Nat.lt_of_lt_of_le hl2 hb3.size
                have hH3 : (fun W => Blk W wo.heap.size 31 #[.int .i64 ver, .int .i64 fr, .int .i64 ti, .int .i64 lo, .int .i64 hi, .slice A2 n2 c2, .int .i64 lev] ∧ W.cell? ⟨wo.heap.size, 0, none⟩ = some (.int .i64 ver) ∧ W.cell? ⟨wo.heap.size, 3, none⟩ = some (.int .i64 lo) ∧ W.cell? ⟨wo.heap.size, 4, none⟩ = some (.int .i64 hi) ∧ W.cell? ⟨wo.heap.size, 5, none⟩ = some (.slice A2 n2 c2)) w3 := ⟨HX3.out, HX3.out.cell 0, HX3.out.cell 3, HX3.out.cell 4, HX3.out.cell 5⟩
                clear hb3
                refine ⟨_, rfl, hH3, ?_⟩
                try simp only [Act.put, List.setIfInBounds_toArray, List.set_cons_zero, List.set_cons_succ]
                refine held_run 9 (some 33) (.binOp .eql 3 (.tmp 29) (.tmp 32) 3) ?v6_4_9 (by rfl) (by kernel_rfl) (by kernel_rfl) (by kernel_rfl) (fun _ _ _ h => h) (fun o ho w hS => ?y6_4_9) (by assumption) ?r6_4_9
                case y6_4_9 => (try dsimp only at hS); unfold execOp; simp only [ho]; go_simp; try with_reducible rfl
                try simp only [Act.put, List.setIfInBounds_toArray, List.set_cons_zero, List.set_cons_succ]
                refine held_run 10 (some 34) (.pick (.tmp 27) (.tmp 33) (.const (Value.bool false))) ?v6_4_10 (by rfl) (by kernel_rfl) (by kernel_rfl) (by kernel_rfl) (fun _ _ _ h => h) (fun o ho w hS => ?y6_4_10) (by assumption) ?r6_4_10
                case y6_4_10 => (try dsimp only at hS); unfold execOp; simp only [ho]; go_simp; try with_reducible rfl
                try simp only [Act.put, List.setIfInBounds_toArray, List.set_cons_zero, List.set_cons_succ]
                refine held_run 11 (some 35) (.move (.tmp 34)) ?v6_4_11 (by rfl) (by kernel_rfl) (by kernel_rfl) (by kernel_rfl) (fun _ _ _ h => h) (fun o ho w hS => ?y6_4_11) (by assumption) ?r6_4_11
                case y6_4_11 => (try dsimp only at hS); unfold execOp; simp only [ho]; go_simp; try with_reducible rfl
                try simp only [Act.put, List.setIfInBounds_toArray, List.set_cons_zero, List.set_cons_succ]
                refine held_run 12 (some 36) (.fieldAddr 31 (.tmp 13) 4) ?v6_4_12 (by rfl) (by kernel_rfl) (by kernel_rfl) (by kernel_rfl) (fun _ _ _ h => h) (fun o ho w hS => ?y6_4_12) (by assumption) ?r6_4_12
                case y6_4_12 => (try dsimp only at hS); unfold execOp; simp only [ho]; go_simp; try with_reducible rfl
                try simp only [Act.put, List.setIfInBounds_toArray, List.set_cons_zero, List.set_cons_succ]
                refine held_run 13 (some 37) (.load 29 (.tmp 36)) ?v6_4_13 (by rfl) (by kernel_rfl) (by kernel_rfl) (by kernel_rfl) (fun _ _ _ h => h) (fun o ho w hS => ?y6_4_13) (by assumption) ?r6_4_13
                case y6_4_13 => (try dsimp only at hS); unfold execOp; simp only [ho]; go_simp; try with_reducible rfl
                try simp only [Act.put, List.setIfInBounds_toArray, List.set_cons_zero, List.set_cons_succ]
                refine held_run 14 (some 38) (.move (.tmp 1)) ?v6_4_14 (by rfl) (by kernel_rfl) (by kernel_rfl) (by kernel_rfl) (fun _ _ _ h => h) (fun o ho w hS => ?y6_4_14) (by assumption) ?r6_4_14
                case y6_4_14 => (try dsimp only at hS); unfold execOp; simp only [ho]; go_simp; try with_reducible rfl
                try simp only [Act.put, List.setIfInBounds_toArray, List.set_cons_zero, List.set_cons_succ]
                refine held_call 15 (some 39) 32 [(.tmp 37), (.tmp 38)] #[29, 3] #[.slice A2 n2 c2, .int .i64 zone] (by rfl) (by rfl) (by kernel_rfl) Try.func32 (by rfl) (by rfl) ?_
                refine (HCt.out _ (HZr.out.below (HW3.out.mono hsz))).mono ?_
                rintro e w' ⟨rfl, rfl⟩
                refine ⟨_, rfl, hH3, ?_⟩
                try simp only [Act.put, List.setIfInBounds_toArray, List.set_cons_zero, List.set_cons_succ]
                refine held_run 16 (some 40) (.pick (.tmp 35) (.tmp 39) (.const (Value.bool false))) ?v6_4_16 (by rfl) (by kernel_rfl) (by kernel_rfl) (by kernel_rfl) (fun _ _ _ h => h) (fun o ho w hS => ?y6_4_16) (by assumption) ?r6_4_16
                case y6_4_16 => (try dsimp only at hS); unfold execOp; simp only [ho]; go_simp; try with_reducible rfl
                try simp only [Act.put, List.setIfInBounds_toArray, List.set_cons_zero, List.set_cons_succ]
                refine held_run 17 (some 41) (.move (.tmp 40)) ?v6_4_17 (by rfl) (by kernel_rfl) (by kernel_rfl) (by kernel_rfl) (fun _ _ _ h => h) (fun o ho w hS => ?y6_4_17) (by assumption) ?r6_4_17
                case y6_4_17 => (try dsimp only at hS); unfold execOp; simp only [ho]; go_simp; try with_reducible rfl
                try simp only [Act.put, List.setIfInBounds_toArray, List.set_cons_zero, List.set_cons_succ]
                refine held_run 18 (some 42) (.fieldAddr 31 (.tmp 13) 2) ?v6_4_18 (by rfl) (by kernel_rfl) (by kernel_rfl) (by kernel_rfl) (fun _ _ _ h => h) (fun o ho w hS => ?y6_4_18) (by assumption) ?r6_4_18
                case y6_4_18 => (try dsimp only at hS); unfold execOp; simp only [ho]; go_simp; try with_reducible rfl
                try simp only [Act.put, List.setIfInBounds_toArray, List.set_cons_zero, List.set_cons_succ]
                refine held_run 19 (some 43) (.load 3 (.tmp 42)) ?v6_4_19 (by rfl) (by kernel_rfl) (by kernel_rfl) (by kernel_rfl) (fun _ _ _ h => h) (fun o ho w hS => ?y6_4_19) (by assumption) ?r6_4_19
                case y6_4_19 => (try dsimp only at hS); unfold execOp; simp only [ho]; go_simp; try with_reducible rfl
                try simp only [Act.put, List.setIfInBounds_toArray, List.set_cons_zero, List.set_cons_succ]
                refine held_run 20 (some 44) (.move (.tmp 3)) ?v6_4_20 (by rfl) (by kernel_rfl) (by kernel_rfl) (by kernel_rfl) (fun _ _ _ h => h) (fun o ho w hS => ?y6_4_20) (by assumption) ?r6_4_20
                case y6_4_20 => (try dsimp only at hS); unfold execOp; simp only [ho]; go_simp; try with_reducible rfl
                try simp only [Act.put, List.setIfInBounds_toArray, List.set_cons_zero, List.set_cons_succ]
                refine held_run 21 (some 45) (.binOp .lss 3 (.tmp 43) (.tmp 44) 3) ?v6_4_21 (by rfl) (by kernel_rfl) (by kernel_rfl) (by kernel_rfl) (fun _ _ _ h => h) (fun o ho w hS => ?y6_4_21) (by assumption) ?r6_4_21
                case y6_4_21 => (try dsimp only at hS); unfold execOp; simp only [ho]; go_simp; try with_reducible rfl
                try simp only [Act.put, List.setIfInBounds_toArray, List.set_cons_zero, List.set_cons_succ]
                refine held_run 22 (some 46) (.pick (.tmp 41) (.tmp 45) (.const (Value.bool false))) ?v6_4_22 (by rfl) (by kernel_rfl) (by kernel_rfl) (by kernel_rfl) (fun _ _ _ h => h) (fun o ho w hS => ?y6_4_22) (by assumption) ?r6_4_22
                case y6_4_22 => (try dsimp only at hS); unfold execOp; simp only [ho]; go_simp; try with_reducible rfl
                try simp only [Act.put, List.setIfInBounds_toArray, List.set_cons_zero, List.set_cons_succ]
                refine held_run 23 (some 47) (.move (.tmp 46)) ?v6_4_23 (by rfl) (by kernel_rfl) (by kernel_rfl) (by kernel_rfl) (fun _ _ _ h => h) (fun o ho w hS => ?y6_4_23) (by assumption) ?r6_4_23
                case y6_4_23 => (try dsimp only at hS); unfold execOp; simp only [ho]; go_simp; try with_reducible rfl
                try simp only [Act.put, List.setIfInBounds_toArray, List.set_cons_zero, List.set_cons_succ]
                refine held_run 24 (some 48) (.move (.tmp 2)) ?v6_4_24 (by rfl) (by kernel_rfl) (by kernel_rfl) (by kernel_rfl) (fun _ _ _ h => h) (fun o ho w hS => ?y6_4_24) (by assumption) ?r6_4_24
                case y6_4_24 => (try dsimp only at hS); unfold execOp; simp only [ho]; go_simp; try with_reducible rfl
                try simp only [Act.put, List.setIfInBounds_toArray, List.set_cons_zero, List.set_cons_succ]
                refine held_run 25 (some 49) (.fieldAddr 31 (.tmp 13) 3) ?v6_4_25 (by rfl) (by kernel_rfl) (by kernel_rfl) (by kernel_rfl) (fun _ _ _ h => h) (fun o ho w hS => ?y6_4_25) (by assumption) ?r6_4_25
                case y6_4_25 => (try dsimp only at hS); unfold execOp; simp only [ho]; go_simp; try with_reducible rfl
                try simp only [Act.put, List.setIfInBounds_toArray, List.set_cons_zero, List.set_cons_succ]
                refine held_run 26 (some 50) (.load 3 (.tmp 49)) ?v6_4_26 (by rfl) (by kernel_rfl) (by kernel_rfl) (by kernel_rfl) (fun _ _ _ h => h) (fun o ho w hS => ?y6_4_26) (by assumption) ?r6_4_26
                case y6_4_26 => (try dsimp only at hS); unfold execOp; simp only [ho]; go_simp; try with_reducible rfl
                try simp only [Act.put, List.setIfInBounds_toArray, List.set_cons_zero, List.set_cons_succ]
                refine held_run 27 (some 51) (.binOp .lss 3 (.tmp 48) (.tmp 50) 3) ?v6_4_27 (by rfl) (by kernel_rfl) (by kernel_rfl) (by kernel_rfl) (fun _ _ _ h => h) (fun o ho w hS => ?y6_4_27) (by assumption) ?r6_4_27
                case y6_4_27 => (try dsimp only at hS); unfold execOp; simp only [ho]; go_simp; try with_reducible rfl
                try simp only [Act.put, List.setIfInBounds_toArray, List.set_cons_zero, List.set_cons_succ]
                refine held_run 28 (some 52) (.pick (.tmp 47) (.tmp 51) (.const (Value.bool false))) ?v6_4_28 (by rfl) (by kernel_rfl) (by kernel_rfl) (by kernel_rfl) (fun _ _ _ h => h) (fun o ho w hS => ?y6_4_28) (by assumption) ?r6_4_28
                case y6_4_28 => (try dsimp only at hS); unfold execOp; simp only [ho]; go_simp; try with_reducible rfl
                try simp only [Act.put, List.setIfInBounds_toArray, List.set_cons_zero, List.set_cons_succ]
                refine wpAnyH_done (by kernel_rfl) ?_ _
                have HBB3 := Lib.hid (HB.out.trans (HW3.out.mono hsz))
                have f6 : w3.cell? ⟨wo.heap.size, 6, none⟩ = some (.int .i64 lev) := HX3.out.cell 6
                by_cases hv : v < lev
                · have HN : Hid (levF (placeB cv zone low high t) 0 (bs.take (k + 1)) = lev) := hide (HSn.out.trans (if_pos ⟨HTr.out, hv⟩))
                  have dm : max v lev = lev := by omega
                  go_wp2_with fail
                  go_roundw
                  case rel => exact ⟨k + 1, by omega, by go_num, by rw [HN.out], HBB3.out⟩
                  case measure => simp [intOf]; omega
                · have HN : Hid (levF (placeB cv zone low high t) 0 (bs.take (k + 1)) = v) := hide (HSn.out.trans (if_neg (fun h => hv h.2)))
                  have dm : max v lev = v := by omega
                  go_wp2_with fail
                  go_roundw
                  case rel => exact ⟨k + 1, by omega, by go_num, by rw [HN.out], HBB3.out⟩
                  case measure => simp [intOf]; omega
              · have d2 : decide (low < hi) = false := by simpa using h2
                refine wp_region_held_drew (S := fun W => Blk W wo.heap.size 31 #[.int .i64 ver, .int .i64 fr, .int .i64 ti, .int .i64 lo, .int .i64 hi, .slice A2 n2 c2, .int .i64 lev] ∧ W.cell? ⟨wo.heap.size, 0, none⟩ = some (.int .i64 ver) ∧ W.cell? ⟨wo.heap.size, 3, none⟩ = some (.int .i64 lo) ∧ W.cell? ⟨wo.heap.size, 4, none⟩ = some (.int .i64 hi) ∧ W.cell? ⟨wo.heap.size, 5, none⟩ = some (.slice A2 n2 c2)) (by kernel_rfl) (⟨HX1.out.drew, HX1.out.drew.cell 0, HX1.out.drew.cell 3, HX1.out.drew.cell 4, HX1.out.drew.cell 5⟩) (fun hHeld => ?_)
                refine held_load 0 (some 24) 31 (.tmp 13) (by rfl) (by kernel_rfl) (by kernel_rfl) (by kernel_rfl) (wo.heap.size) 31 #[.int .i64 ver, .int .i64 fr, .int .i64 ti, .int .i64 lo, .int .i64 hi, .slice A2 n2 c2, .int .i64 lev] (fun _ _ _ h => h) (by rfl) (fun _ h => h.1) _ Try.underlying31 rfl (by kernel_rfl) (by assumption) ?_
                try simp only [Act.put, List.setIfInBounds_toArray, List.set_cons_zero, List.set_cons_succ]
                refine held_run 1 (some 25) (.move (.tmp 4)) ?v6_5_1 (by rfl) (by kernel_rfl) (by kernel_rfl) (by kernel_rfl) (fun _ _ _ h => h) (fun o ho w hS => ?y6_5_1) (by assumption) ?r6_5_1
                case y6_5_1 => (try dsimp only at hS); unfold execOp; simp only [ho]; go_simp; try with_reducible rfl
                try simp only [Act.put, List.setIfInBounds_toArray, List.set_cons_zero, List.set_cons_succ]
                refine held_call 2 (some 26) 31 [(.tmp 24), (.tmp 25)] #[31, 3] #[.agg #[.int .i64 ver, .int .i64 fr, .int .i64 ti, .int .i64 lo, .int .i64 hi, .slice A2 n2 c2, .int .i64 lev], .int .i64 t] (by rfl) (by rfl) (by kernel_rfl) Try.func31 (by rfl) (by rfl) ?_
                refine (HCv.out _).mono ?_
                rintro e w2 ⟨rfl, hb2⟩
                have HW2 := Lib.hid (HB1.out.drew.trans (hb2.mono HB1.out.size))
                have HX2 := Lib.hid (HX1.out.drew.below hb2 hl1)
                have hl2 := Nat.lt_of_lt_of_le hl1 hb2.size
                have hH2 : (fun W => Blk W wo.heap.size 31 #[.int .i64 ver, .int .i64 fr, .int .i64 ti, .int .i64 lo, .int .i64 hi, .slice A2 n2 c2, .int .i64 lev] ∧ W.cell? ⟨wo.heap.size, 0, none⟩ = some (.int .i64 ver) ∧ W.cell? ⟨wo.heap.size, 3, none⟩ = some (.int .i64 lo) ∧ W.cell? ⟨wo.heap.size, 4, none⟩ = some (.int .i64 hi) ∧ W.cell? ⟨wo.heap.size, 5, none⟩ = some (.slice A2 n2 c2)) w2 := ⟨HX2.out, HX2.out.cell 0, HX2.out.cell 3, HX2.out.cell 4, HX2.out.cell 5⟩
                clear hb2
                refine ⟨_, rfl, hH2, ?_⟩
                try simp only [Act.put, List.setIfInBounds_toArray, List.set_cons_zero, List.set_cons_succ]
                refine held_run 3 (some 27) (.move (.tmp 26)) ?v6_5_3 (by rfl) (by kernel_rfl) (by kernel_rfl) (by kernel_rfl) (fun _ _ _ h => h) (fun o ho w hS => ?y6_5_3) (by assumption) ?r6_5_3
                case y6_5_3 => (try dsimp only at hS); unfold execOp; simp only [ho]; go_simp; try with_reducible rfl
                try simp only [Act.put, List.setIfInBounds_toArray, List.set_cons_zero, List.set_cons_succ]
                refine held_run 4 (some 28) (.fieldAddr 31 (.tmp 13) 0) ?v6_5_4 (by rfl) (by kernel_rfl) (by kernel_rfl) (by kernel_rfl) (fun _ _ _ h => h) (fun o ho w hS => ?y6_5_4) (by assumption) ?r6_5_4
                case y6_5_4 => (try dsimp only at hS); unfold execOp; simp only [ho]; go_simp; try with_reducible rfl
                try simp only [Act.put, List.setIfInBounds_toArray, List.set_cons_zero, List.set_cons_succ]
                refine held_run 5 (some 29) (.load 3 (.tmp 28)) ?v6_5_5 (by rfl) (by kernel_rfl) (by kernel_rfl) (by kernel_rfl) (fun _ _ _ h => h) (fun o ho w hS => ?y6_5_5) (by assumption) ?r6_5_5
                case y6_5_5 => (try dsimp only at hS); unfold execOp; simp only [ho]; go_simp; try with_reducible rfl
                try simp only [Act.put, List.setIfInBounds_toArray, List.set_cons_zero, List.set_cons_succ]
                refine held_run 6 (some 30) (.move (.tmp 0)) ?v6_5_6 (by rfl) (by kernel_rfl) (by kernel_rfl) (by kernel_rfl) (fun _ _ _ h => h) (fun o ho w hS => ?y6_5_6) (by assumption) ?r6_5_6
                case y6_5_6 => (try dsimp only at hS); unfold execOp; simp only [ho]; go_simp; try with_reducible rfl
                try simp only [Act.put, List.setIfInBounds_toArray, List.set_cons_zero, List.set_cons_succ]
                refine held_run 7 (some 31) (.move (.tmp 4)) ?v6_5_7 (by rfl) (by kernel_rfl) (by kernel_rfl) (by kernel_rfl) (fun _ _ _ h => h) (fun o ho w hS => ?y6_5_7) (by assumption) ?r6_5_7
                case y6_5_7 => (try dsimp only at hS); unfold execOp; simp only [ho]; go_simp; try with_reducible rfl
                try simp only [Act.put, List.setIfInBounds_toArray, List.set_cons_zero, List.set_cons_succ]
                refine held_call 8 (some 32) 18 [(.tmp 30), (.tmp 31)] #[22, 3] #[.slice (some ad) n c, .int .i64 t] (by rfl) (by rfl) (by kernel_rfl) Try.func18 (by rfl) (by rfl) ?_
                refine (HCu.out _ (HRo.out.now HW2.out)).mono ?_
                rintro e w3 ⟨rfl, hb3⟩
                have HW3 := Lib.hid (HW2.out.trans (hb3.mono HW2.out.size))
                have HX3 := Lib.hid (HX2.out.below hb3 hl2)
                have hl3 := Nat.lt_of_lt_of_le hl2 hb3.size
                have hH3 : (fun W => Blk W wo.heap.size 31 #[.int .i64 ver, .int .i64 fr, .int .i64 ti, .int .i64 lo, .int .i64 hi, .slice A2 n2 c2, .int .i64 lev] ∧ W.cell? ⟨wo.heap.size, 0, none⟩ = some (.int .i64 ver) ∧ W.cell? ⟨wo.heap.size, 3, none⟩ = some (.int .i64 lo) ∧ W.cell? ⟨wo.heap.size, 4, none⟩ = some (.int .i64 hi) ∧ W.cell? ⟨wo.heap.size, 5, none⟩ = some (.slice A2 n2 c2)) w3 := ⟨HX3.out, HX3.out.cell 0, HX3.out.cell 3, HX3.out.cell 4, HX3.out.cell 5⟩
                clear hb3
                refine ⟨_, rfl, hH3, ?_⟩
                try simp only [Act.put, List.setIfInBounds_toArray, List.set_cons_zero, List.set_cons_succ]
                refine held_run 9 (some 33) (.binOp .eql 3 (.tmp 29) (.tmp 32) 3) ?v6_5_9 (by rfl) (by kernel_rfl) (by kernel_rfl) (by kernel_rfl) (fun _ _ _ h => h) (fun o ho w hS => ?y6_5_9) (by assumption) ?r6_5_9
                case y6_5_9 => (try dsimp only at hS); unfold execOp; simp only [ho]; go_simp; try with_reducible rfl
                try simp only [Act.put, List.setIfInBounds_toArray, List.set_cons_zero, List.set_cons_succ]
                refine held_run 10 (some 34) (.pick (.tmp 27) (.tmp 33) (.const (Value.bool false))) ?v6_5_10 (by rfl) (by kernel_rfl) (by kernel_rfl) (by kernel_rfl) (fun _ _ _ h => h) (fun o ho w hS => ?y6_5_10) (by assumption) ?r6_5_10
                case y6_5_10 => (try dsimp only at hS); unfold execOp; simp only [ho]; go_simp; try with_reducible rfl
                try simp only [Act.put, List.setIfInBounds_toArray, List.set_cons_zero, List.set_cons_succ]
                refine held_run 11 (some 35) (.move (.tmp 34)) ?v6_5_11 (by rfl) (by kernel_rfl) (by kernel_rfl) (by kernel_rfl) (fun _ _ _ h => h) (fun o ho w hS => ?y6_5_11) (by assumption) ?r6_5_11
                case y6_5_11 => (try dsimp only at hS); unfold execOp; simp only [ho]; go_simp; try with_reducible rfl
                try simp only [Act.put, List.setIfInBounds_toArray, List.set_cons_zero, List.set_cons_succ]
                refine held_run 12 (some 36) (.fieldAddr 31 (.tmp 13) 4) ?v6_5_12 (by rfl) (by kernel_rfl) (by kernel_rfl) (by kernel_rfl) (fun _ _ _ h => h) (fun o ho w hS => ?y6_5_12) (by assumption) ?r6_5_12
                case y6_5_12 => (try dsimp only at hS); unfold execOp; simp only [ho]; go_simp; try with_reducible rfl
                try simp only [Act.put, List.setIfInBounds_toArray, List.set_cons_zero, List.set_cons_succ]
                refine held_run 13 (some 37) (.load 29 (.tmp 36)) ?v6_5_13 (by rfl) (by kernel_rfl) (by kernel_rfl) (by kernel_rfl) (fun _ _ _ h => h) (fun o ho w hS => ?y6_5_13) (by assumption) ?r6_5_13
                case y6_5_13 => (try dsimp only at hS); unfold execOp; simp only [ho]; go_simp; try with_reducible rfl
                try simp only [Act.put, List.setIfInBounds_toArray, List.set_cons_zero, List.set_cons_succ]
                refine held_run 14 (some 38) (.move (.tmp 1)) ?v6_5_14 (by rfl) (by kernel_rfl) (by kernel_rfl) (by kernel_rfl) (fun _ _ _ h => h) (fun o ho w hS => ?y6_5_14) (by assumption) ?r6_5_14
                case y6_5_14 => (try dsimp only at hS); unfold execOp; simp only [ho]; go_simp; try with_reducible rfl
                try simp only [Act.put, List.setIfInBounds_toArray, List.set_cons_zero, List.set_cons_succ]
                refine held_call 15 (some 39) 32 [(.tmp 37), (.tmp 38)] #[29, 3] #[.slice A2 n2 c2, .int .i64 zone] (by rfl) (by rfl) (by kernel_rfl) Try.func32 (by rfl) (by rfl) ?_
                refine (HCt.out _ (HZr.out.below (HW3.out.mono hsz))).mono ?_
                rintro e w' ⟨rfl, rfl⟩
                refine ⟨_, rfl, hH3, ?_⟩
                try simp only [Act.put, List.setIfInBounds_toArray, List.set_cons_zero, List.set_cons_succ]
                refine held_run 16 (some 40) (.pick (.tmp 35) (.tmp 39) (.const (Value.bool false))) ?v6_5_16 (by rfl) (by kernel_rfl) (by kernel_rfl) (by kernel_rfl) (fun _ _ _ h => h) (fun o ho w hS => ?y6_5_16) (by assumption) ?r6_5_16
                case y6_5_16 => (try dsimp only at hS); unfold execOp; simp only [ho]; go_simp; try with_reducible rfl
                try simp only [Act.put, List.setIfInBounds_toArray, List.set_cons_zero, List.set_cons_succ]
                refine held_run 17 (some 41) (.move (.tmp 40)) ?v6_5_17 (by rfl) (by kernel_rfl) (by kernel_rfl) (by kernel_rfl) (fun _ _ _ h => h) (fun o ho w hS => ?y6_5_17) (by assumption) ?r6_5_17
                case y6_5_17 => (try dsimp only at hS); unfold execOp; simp only [ho]; go_simp; try with_reducible rfl
                try simp only [Act.put, List.setIfInBounds_toArray, List.set_cons_zero, List.set_cons_succ]
                refine held_run 18 (some 42) (.fieldAddr 31 (.tmp 13) 2) ?v6_5_18 (by rfl) (by kernel_rfl) (by kernel_rfl) (by kernel_rfl) (fun _ _ _ h => h) (fun o ho w hS => ?y6_5_18) (by assumption) ?r6_5_18
                case y6_5_18 => (try dsimp only at hS); unfold execOp; simp only [ho]; go_simp; try with_reducible rfl
                try simp only [Act.put, List.setIfInBounds_toArray, List.set_cons_zero, List.set_cons_succ]
                refine held_run 19 (some 43) (.load 3 (.tmp 42)) ?v6_5_19 (by rfl) (by kernel_rfl) (by kernel_rfl) (by kernel_rfl) (fun _ _ _ h => h) (fun o ho w hS => ?y6_5_19) (by assumption) ?r6_5_19
                case y6_5_19 => (try dsimp only at hS); unfold execOp; simp only [ho]; go_simp; try with_reducible rfl
                try simp only [Act.put, List.setIfInBounds_toArray, List.set_cons_zero, List.set_cons_succ]
                refine held_run 20 (some 44) (.move (.tmp 3)) ?v6_5_20 (by rfl) (by kernel_rfl) (by kernel_rfl) (by kernel_rfl) (fun _ _ _ h => h) (fun o ho w hS => ?y6_5_20) (by assumption) ?r6_5_20
                case y6_5_20 => (try dsimp only at hS); unfold execOp; simp only [ho]; go_simp; try with_reducible rfl
                try simp only [Act.put, List.setIfInBounds_toArray, List.set_cons_zero, List.set_cons_succ]
                refine held_run 21 (some 45) (.binOp .lss 3 (.tmp 43) (.tmp 44) 3) ?v6_5_21 (by rfl) (by kernel_rfl) (by kernel_rfl) (by kernel_rfl) (fun _ _ _ h => h) (fun o ho w hS => ?y6_5_21) (by assumption) ?r6_5_21
                case y6_5_21 => (try dsimp only at hS); unfold execOp; simp only [ho]; go_simp; try with_reducible rfl
                try simp only [Act.put, List.setIfInBounds_toArray, List.set_cons_zero, List.set_cons_succ]
                refine held_run 22 (some 46) (.pick (.tmp 41) (.tmp 45) (.const (Value.bool false))) ?v6_5_22 (by rfl) (by kernel_rfl) (by kernel_rfl) (by kernel_rfl) (fun _ _ _ h => h) (fun o ho w hS => ?y6_5_22) (by assumption) ?r6_5_22
                case y6_5_22 => (try dsimp only at hS); unfold execOp; simp only [ho]; go_simp; try with_reducible rfl
                try simp only [Act.put, List.setIfInBounds_toArray, List.set_cons_zero, List.set_cons_succ]
                refine held_run 23 (some 47) (.move (.tmp 46)) ?v6_5_23 (by rfl) (by kernel_rfl) (by kernel_rfl) (by kernel_rfl) (fun _ _ _ h => h) (fun o ho w hS => ?y6_5_23) (by assumption) ?r6_5_23
                case y6_5_23 => (try dsimp only at hS); unfold execOp; simp only [ho]; go_simp; try with_reducible rfl
                try simp only [Act.put, List.setIfInBounds_toArray, List.set_cons_zero, List.set_cons_succ]
                refine held_run 24 (some 48) (.move (.tmp 2)) ?v6_5_24 (by rfl) (by kernel_rfl) (by kernel_rfl) (by kernel_rfl) (fun _ _ _ h => h) (fun o ho w hS => ?y6_5_24) (by assumption) ?r6_5_24
                case y6_5_24 => (try dsimp only at hS); unfold execOp; simp only [ho]; go_simp; try with_reducible rfl
                try simp only [Act.put, List.setIfInBounds_toArray, List.set_cons_zero, List.set_cons_succ]
                refine held_run 25 (some 49) (.fieldAddr 31 (.tmp 13) 3) ?v6_5_25 (by rfl) (by kernel_rfl) (by kernel_rfl) (by kernel_rfl) (fun _ _ _ h => h) (fun o ho w hS => ?y6_5_25) (by assumption) ?r6_5_25
                case y6_5_25 => (try dsimp only at hS); unfold execOp; simp only [ho]; go_simp; try with_reducible rfl
                try simp only [Act.put, List.setIfInBounds_toArray, List.set_cons_zero, List.set_cons_succ]
                refine held_run 26 (some 50) (.load 3 (.tmp 49)) ?v6_5_26 (by rfl) (by kernel_rfl) (by kernel_rfl) (by kernel_rfl) (fun _ _ _ h => h) (fun o ho w hS => ?y6_5_26) (by assumption) ?r6_5_26
                case y6_5_26 => (try dsimp only at hS); unfold execOp; simp only [ho]; go_simp; try with_reducible rfl
                try simp only [Act.put, List.setIfInBounds_toArray, List.set_cons_zero, List.set_cons_succ]
                refine held_run 27 (some 51) (.binOp .lss 3 (.tmp 48) (.tmp 50) 3) ?v6_5_27 (by rfl) (by kernel_rfl) (by kernel_rfl) (by kernel_rfl) (fun _ _ _ h => h) (fun o ho w hS => ?y6_5_27) (by assumption) ?r6_5_27
                case y6_5_27 => (try dsimp only at hS); unfold execOp; simp only [ho]; go_simp; try with_reducible rfl
                try simp only [Act.put, List.setIfInBounds_toArray, List.set_cons_zero, List.set_cons_succ]
                refine held_run 28 (some 52) (.pick (.tmp 47) (.tmp 51) (.const (Value.bool false))) ?v6_5_28 (by rfl) (by kernel_rfl) (by kernel_rfl) (by kernel_rfl) (fun _ _ _ h => h) (fun o ho w hS => ?y6_5_28) (by assumption) ?r6_5_28
                case y6_5_28 => (try dsimp only at hS); unfold execOp; simp only [ho]; go_simp; try with_reducible rfl
                try simp only [Act.put, List.setIfInBounds_toArray, List.set_cons_zero, List.set_cons_succ]
                refine wpAnyH_done (by kernel_rfl) ?_ _
                have HBB3 := Lib.hid (HB.out.trans (HW3.out.mono hsz))
                have f6 : w3.cell? ⟨wo.heap.size, 6, none⟩ = some (.int .i64 lev) := HX3.out.cell 6
                have HN : Hid (levF (placeB cv zone low high t) 0 (bs.take (k + 1)) = v) := hide (HSn.out.trans (if_neg (fun h => by rw [d2, Bool.and_false] at h; cases h.1)))
                go_wp2_with fail
                go_roundw
                case rel => exact ⟨k + 1, by omega, by go_num, by rw [HN.out], HBB3.out⟩
                case measure => simp [intOf]; omega
            · have d1 : decide (lo < high) = false := by simpa using h1
              refine wp_region_held_drew (S := fun W => Blk W wo.heap.size 31 #[.int .i64 ver, .int .i64 fr, .int .i64 ti, .int .i64 lo, .int .i64 hi, .slice A2 n2 c2, .int .i64 lev] ∧ W.cell? ⟨wo.heap.size, 0, none⟩ = some (.int .i64 ver) ∧ W.cell? ⟨wo.heap.size, 3, none⟩ = some (.int .i64 lo) ∧ W.cell? ⟨wo.heap.size, 4, none⟩ = some (.int .i64 hi) ∧ W.cell? ⟨wo.heap.size, 5, none⟩ = some (.slice A2 n2 c2)) (by kernel_rfl) (⟨HX1.out.drew, HX1.out.drew.cell 0, HX1.out.drew.cell 3, HX1.out.drew.cell 4, HX1.out.drew.cell 5⟩) (fun hHeld => ?_)
              refine held_load 0 (some 24) 31 (.tmp 13) (by rfl) (by kernel_rfl) (by kernel_rfl) (by kernel_rfl) (wo.heap.size) 31 #[.int .i64 ver, .int .i64 fr, .int .i64 ti, .int .i64 lo, .int .i64 hi, .slice A2 n2 c2, .int .i64 lev] (fun _ _ _ h => h) (by rfl) (fun _ h => h.1) _ Try.underlying31 rfl (by kernel_rfl) (by assumption) ?_
              try simp only [Act.put, List.setIfInBounds_toArray, List.set_cons_zero, List.set_cons_succ]
              refine held_run 1 (some 25) (.move (.tmp 4)) ?v6_6_1 (by rfl) (by kernel_rfl) (by kernel_rfl) (by kernel_rfl) (fun _ _ _ h => h) (fun o ho w hS => ?y6_6_1) (by assumption) ?r6_6_1
              case y6_6_1 => (try dsimp only at hS); unfold execOp; simp only [ho]; go_simp; try with_reducible rfl
              try simp only [Act.put, List.setIfInBounds_toArray, List.set_cons_zero, List.set_cons_succ]
              refine held_call 2 (some 26) 31 [(.tmp 24), (.tmp 25)] #[31, 3] #[.agg #[.int .i64 ver, .int .i64 fr, .int .i64 ti, .int .i64 lo, .int .i64 hi, .slice A2 n2 c2, .int .i64 lev], .int .i64 t] (by rfl) (by rfl) (by kernel_rfl) Try.func31 (by rfl) (by rfl) ?_
              refine (HCv.out _).mono ?_
              rintro e w2 ⟨rfl, hb2⟩
              have HW2 := Lib.hid (HB1.out.drew.trans (hb2.mono HB1.out.size))
              have HX2 := Lib.hid (HX1.out.drew.below hb2 hl1)
              have hl2 := Nat.lt_of_lt_of_le hl1 hb2.size
              have hH2 : (fun W => Blk W wo.heap.size 31 #[.int .i64 ver, .int .i64 fr, .int .i64 ti, .int .i64 lo, .int .i64 hi, .slice A2 n2 c2, .int .i64 lev] ∧ W.cell? ⟨wo.heap.size, 0, none⟩ = some (.int .i64 ver) ∧ W.cell? ⟨wo.heap.size, 3, none⟩ = some (.int .i64 lo) ∧ W.cell? ⟨wo.heap.size, 4, none⟩ = some (.int .i64 hi) ∧ W.cell? ⟨wo.heap.size, 5, none⟩ = some (.slice A2 n2 c2)) w2 := ⟨HX2.out, HX2.out.cell 0, HX2.out.cell 3, HX2.out.cell 4, HX2.out.cell 5⟩
              clear hb2
              refine ⟨_, rfl, hH2, ?_⟩
              try simp only [Act.put, List.setIfInBounds_toArray, List.set_cons_zero, List.set_cons_succ]
              refine held_run 3 (some 27) (.move (.tmp 26)) ?v6_6_3 (by rfl) (by kernel_rfl) (by kernel_rfl) (by kernel_rfl) (fun _ _ _ h => h) (fun o ho w hS => ?y6_6_3) (by assumption) ?r6_6_3
              case y6_6_3 => (try dsimp only at hS); unfold execOp; simp only [ho]; go_simp; try with_reducible rfl
              try simp only [Act.put, List.setIfInBounds_toArray, List.set_cons_zero, List.set_cons_succ]
              refine held_run 4 (some 28) (.fieldAddr 31 (.tmp 13) 0) ?v6_6_4 (by rfl) (by kernel_rfl) (by kernel_rfl) (by kernel_rfl) (fun _ _ _ h => h) (fun o ho w hS => ?y6_6_4) (by assumption) ?r6_6_4
              case y6_6_4 => (try dsimp only at hS); unfold execOp; simp only [ho]; go_simp; try with_reducible rfl
              try simp only [Act.put, List.setIfInBounds_toArray, List.set_cons_zero, List.set_cons_succ]
              refine held_run 5 (some 29) (.load 3 (.tmp 28)) ?v6_6_5 (by rfl) (by kernel_rfl) (by kernel_rfl) (by kernel_rfl) (fun _ _ _ h => h) (fun o ho w hS => ?y6_6_5) (by assumption) ?r6_6_5
              case y6_6_5 => (try dsimp only at hS); unfold execOp; simp only [ho]; go_simp; try with_reducible rfl
              try simp only [Act.put, List.setIfInBounds_toArray, List.set_cons_zero, List.set_cons_succ]
              refine held_run 6 (some 30) (.move (.tmp 0)) ?v6_6_6 (by rfl) (by kernel_rfl) (by kernel_rfl) (by kernel_rfl) (fun _ _ _ h => h) (fun o ho w hS => ?y6_6_6) (by assumption) ?r6_6_6
              case y6_6_6 => (try dsimp only at hS); unfold execOp; simp only [ho]; go_simp; try with_reducible rfl
              try simp only [Act.put, List.setIfInBounds_toArray, List.set_cons_zero, List.set_cons_succ]
              refine held_run 7 (some 31) (.move (.tmp 4)) ?v6_6_7 (by rfl) (by kernel_rfl) (by kernel_rfl) (by kernel_rfl) (fun _ _ _ h => h) (fun o ho w hS => ?y6_6_7) (by assumption) ?r6_6_7
              case y6_6_7 => (try dsimp only at hS); unfold execOp; simp only [ho]; go_simp; try with_reducible rfl
              try simp only [Act.put, List.setIfInBounds_toArray, List.set_cons_zero, List.set_cons_succ]
              refine held_call 8 (some 32) 18 [(.tmp 30), (.tmp 31)] #[22, 3] #[.slice (some ad) n c, .int .i64 t] (by rfl) (by rfl) (by kernel_rfl) Try.func18 (by rfl) (by rfl) ?_
              refine (HCu.out _ (HRo.out.now HW2.out)).mono ?_
              rintro e w3 ⟨rfl, hb3⟩
              have HW3 := Lib.hid (HW2.out.trans (hb3.mono HW2.out.size))
              have HX3 := Lib.hid (HX2.out.below hb3 hl2)
              have hl3 := Nat.lt_of_lt_of_le hl2 hb3.size
              have hH3 : (fun W => Blk W wo.heap.size 31 #[.int .i64 ver, .int .i64 fr, .int .i64 ti, .int .i64 lo, .int .i64 hi, .slice A2 n2 c2, .int .i64 lev] ∧ W.cell? ⟨wo.heap.size, 0, none⟩ = some (.int .i64 ver) ∧ W.cell? ⟨wo.heap.size, 3, none⟩ = some (.int .i64 lo) ∧ W.cell? ⟨wo.heap.size, 4, none⟩ = some (.int .i64 hi) ∧ W.cell? ⟨wo.heap.size, 5, none⟩ = some (.slice A2 n2 c2)) w3 := ⟨HX3.out, HX3.out.cell 0, HX3.out.cell 3, HX3.out.cell 4, HX3.out.cell 5⟩
              clear hb3
              refine ⟨_, rfl, hH3, ?_⟩
              try simp only [Act.put, List.setIfInBounds_toArray, List.set_cons_zero, List.set_cons_succ]
              refine held_run 9 (some 33) (.binOp .eql 3 (.tmp 29) (.tmp 32) 3) ?v6_6_9 (by rfl) (by kernel_rfl) (by kernel_rfl) (by kernel_rfl) (fun _ _ _ h => h) (fun o ho w hS => ?y6_6_9) (by assumption) ?r6_6_9
              case y6_6_9 => (try dsimp only at hS); unfold execOp; simp only [ho]; go_simp; try with_reducible rfl
              try simp only [Act.put, List.setIfInBounds_toArray, List.set_cons_zero, List.set_cons_succ]
              refine held_run 10 (some 34) (.pick (.tmp 27) (.tmp 33) (.const (Value.bool false))) ?v6_6_10 (by rfl) (by kernel_rfl) (by kernel_rfl) (by kernel_rfl) (fun _ _ _ h => h) (fun o ho w hS => ?y6_6_10) (by assumption) ?r6_6_10
              case y6_6_10 => (try dsimp only at hS); unfold execOp; simp only [ho]; go_simp; try with_reducible rfl
              try simp only [Act.put, List.setIfInBounds_toArray, List.set_cons_zero, List.set_cons_succ]
              refine held_run 11 (some 35) (.move (.tmp 34)) ?v6_6_11 (by rfl) (by kernel_rfl) (by kernel_rfl) (by kernel_rfl) (fun _ _ _ h => h) (fun o ho w hS => ?y6_6_11) (by assumption) ?r6_6_11
              case y6_6_11 => (try dsimp only at hS); unfold execOp; simp only [ho]; go_simp; try with_reducible rfl
              try simp only [Act.put, List.setIfInBounds_toArray, List.set_cons_zero, List.set_cons_succ]
              refine held_run 12 (some 36) (.fieldAddr 31 (.tmp 13) 4) ?v6_6_12 (by rfl) (by kernel_rfl) (by kernel_rfl) (by kernel_rfl) (fun _ _ _ h => h) (fun o ho w hS => ?y6_6_12) (by assumption) ?r6_6_12
              case y6_6_12 => (try dsimp only at hS); unfold execOp; simp only [ho]; go_simp; try with_reducible rfl
              try simp only [Act.put, List.setIfInBounds_toArray, List.set_cons_zero, List.set_cons_succ]
              refine held_run 13 (some 37) (.load 29 (.tmp 36)) ?v6_6_13 (by rfl) (by kernel_rfl) (by kernel_rfl) (by kernel_rfl) (fun _ _ _ h => h) (fun o ho w hS => ?y6_6_13) (by assumption) ?r6_6_13
              case y6_6_13 => (try dsimp only at hS); unfold execOp; simp only [ho]; go_simp; try with_reducible rfl
              try simp only [Act.put, List.setIfInBounds_toArray, List.set_cons_zero, List.set_cons_succ]
              refine held_run 14 (some 38) (.move (.tmp 1)) ?v6_6_14 (by rfl) (by kernel_rfl) (by kernel_rfl) (by kernel_rfl) (fun _ _ _ h => h) (fun o ho w hS => ?y6_6_14) (by assumption) ?r6_6_14
              case y6_6_14 => (try dsimp only at hS); unfold execOp; simp only [ho]; go_simp; try with_reducible rfl
              try simp only [Act.put, List.setIfInBounds_toArray, List.set_cons_zero, List.set_cons_succ]
              refine held_call 15 (some 39) 32 [(.tmp 37), (.tmp 38)] #[29, 3] #[.slice A2 n2 c2, .int .i64 zone] (by rfl) (by rfl) (by kernel_rfl) Try.func32 (by rfl) (by rfl) ?_
              refine (HCt.out _ (HZr.out.below (HW3.out.mono hsz))).mono ?_
              rintro e w' ⟨rfl, rfl⟩
              refine ⟨_, rfl, hH3, ?_⟩
              try simp only [Act.put, List.setIfInBounds_toArray, List.set_cons_zero, List.set_cons_succ]
              refine held_run 16 (some 40) (.pick (.tmp 35) (.tmp 39) (.const (Value.bool false))) ?v6_6_16 (by rfl) (by kernel_rfl) (by kernel_rfl) (by kernel_rfl) (fun _ _ _ h => h) (fun o ho w hS => ?y6_6_16) (by assumption) ?r6_6_16
              case y6_6_16 => (try dsimp only at hS); unfold execOp; simp only [ho]; go_simp; try with_reducible rfl
              try simp only [Act.put, List.setIfInBounds_toArray, List.set_cons_zero, List.set_cons_succ]
              refine held_run 17 (some 41) (.move (.tmp 40)) ?v6_6_17 (by rfl) (by kernel_rfl) (by kernel_rfl) (by kernel_rfl) (fun _ _ _ h => h) (fun o ho w hS => ?y6_6_17) (by assumption) ?r6_6_17
              case y6_6_17 => (try dsimp only at hS); unfold execOp; simp only [ho]; go_simp; try with_reducible rfl
              try simp only [Act.put, List.setIfInBounds_toArray, List.set_cons_zero, List.set_cons_succ]
              refine held_run 18 (some 42) (.fieldAddr 31 (.tmp 13) 2) ?v6_6_18 (by rfl) (by kernel_rfl) (by kernel_rfl) (by kernel_rfl) (fun _ _ _ h => h) (fun o ho w hS => ?y6_6_18) (by assumption) ?r6_6_18
              case y6_6_18 => (try dsimp only at hS); unfold execOp; simp only [ho]; go_simp; try with_reducible rfl
              try simp only [Act.put, List.setIfInBounds_toArray, List.set_cons_zero, List.set_cons_succ]
              refine held_run 19 (some 43) (.load 3 (.tmp 42)) ?v6_6_19 (by rfl) (by kernel_rfl) (by kernel_rfl) (by kernel_rfl) (fun _ _ _ h => h) (fun o ho w hS => ?y6_6_19) (by assumption) ?r6_6_19
              case y6_6_19 => (try dsimp only at hS); unfold execOp; simp only [ho]; go_simp; try with_reducible rfl
              try simp only [Act.put, List.setIfInBounds_toArray, List.set_cons_zero, List.set_cons_succ]
              refine held_run 20 (some 44) (.move (.tmp 3)) ?v6_6_20 (by rfl) (by kernel_rfl) (by kernel_rfl) (by kernel_rfl) (fun _ _ _ h => h) (fun o ho w hS => ?y6_6_20) (by assumption) ?r6_6_20
              case y6_6_20 => (try dsimp only at hS); unfold execOp; simp only [ho]; go_simp; try with_reducible rfl
              try simp only [Act.put, List.setIfInBounds_toArray, List.set_cons_zero, List.set_cons_succ]
              refine held_run 21 (some 45) (.binOp .lss 3 (.tmp 43) (.tmp 44) 3) ?v6_6_21 (by rfl) (by kernel_rfl) (by kernel_rfl) (by kernel_rfl) (fun _ _ _ h => h) (fun o ho w hS => ?y6_6_21) (by assumption) ?r6_6_21
              case y6_6_21 => (try dsimp only at hS); unfold execOp; simp only [ho]; go_simp; try with_reducible rfl
              try simp only [Act.put, List.setIfInBounds_toArray, List.set_cons_zero, List.set_cons_succ]
              refine held_run 22 (some 46) (.pick (.tmp 41) (.tmp 45) (.const (Value.bool false))) ?v6_6_22 (by rfl) (by kernel_rfl) (by kernel_rfl) (by kernel_rfl) (fun _ _ _ h => h) (fun o ho w hS => ?y6_6_22) (by assumption) ?r6_6_22
              case y6_6_22 => (try dsimp only at hS); unfold execOp; simp only [ho]; go_simp; try with_reducible rfl
              try simp only [Act.put, List.setIfInBounds_toArray, List.set_cons_zero, List.set_cons_succ]
              refine held_run 23 (some 47) (.move (.tmp 46)) ?v6_6_23 (by rfl) (by kernel_rfl) (by kernel_rfl) (by kernel_rfl) (fun _ _ _ h => h) (fun o ho w hS => ?y6_6_23) (by assumption) ?r6_6_23
              case y6_6_23 => (try dsimp only at hS); unfold execOp; simp only [ho]; go_simp; try with_reducible rfl
              try simp only [Act.put, List.setIfInBounds_toArray, List.set_cons_zero, List.set_cons_succ]
              refine held_skip 24 (some 48) (by rfl) (by kernel_rfl) (by kernel_rfl) (by kernel_rfl) (fun _ _ _ h => h) (by assumption) ?_
              try simp only [Act.put, List.setIfInBounds_toArray, List.set_cons_zero, List.set_cons_succ]
              refine held_skip 25 (some 49) (by rfl) (by kernel_rfl) (by kernel_rfl) (by kernel_rfl) (fun _ _ _ h => h) (by assumption) ?_
              try simp only [Act.put, List.setIfInBounds_toArray, List.set_cons_zero, List.set_cons_succ]
              refine held_skip 26 (some 50) (by rfl) (by kernel_rfl) (by kernel_rfl) (by kernel_rfl) (fun _ _ _ h => h) (by assumption) ?_
              try simp only [Act.put, List.setIfInBounds_toArray, List.set_cons_zero, List.set_cons_succ]
              refine held_skip 27 (some 51) (by rfl) (by kernel_rfl) (by kernel_rfl) (by kernel_rfl) (fun _ _ _ h => h) (by assumption) ?_
              try simp only [Act.put, List.setIfInBounds_toArray, List.set_cons_zero, List.set_cons_succ]
              refine held_run 28 (some 52) (.pick (.tmp 47) (.tmp 51) (.const (Value.bool false))) ?v6_6_28 (by rfl) (by kernel_rfl) (by kernel_rfl) (by kernel_rfl) (fun _ _ _ h => h) (fun o ho w hS => ?y6_6_28) (by assumption) ?r6_6_28
              case y6_6_28 => (try dsimp only at hS); unfold execOp; simp only [ho]; go_simp; try with_reducible rfl
              try simp only [Act.put, List.setIfInBounds_toArray, List.set_cons_zero, List.set_cons_succ]
              refine wpAnyH_done (by kernel_rfl) ?_ _
              have HBB3 := Lib.hid (HB.out.trans (HW3.out.mono hsz))
              have f6 : w3.cell? ⟨wo.heap.size, 6, none⟩ = some (.int .i64 lev) := HX3.out.cell 6
              have HN : Hid (levF (placeB cv zone low high t) 0 (bs.take (k + 1)) = v) := hide (HSn.out.trans (if_neg (fun h => by rw [d1, Bool.and_false, Bool.false_and] at h; cases h.1)))
              go_wp2_with fail
              go_roundw
              case rel => exact ⟨k + 1, by omega, by go_num, by rw [HN.out], HBB3.out⟩
              case measure => simp [intOf]; omega
          | false =>
            refine wp_region_held_drew (S := fun W => Blk W wo.heap.size 31 #[.int .i64 ver, .int .i64 fr, .int .i64 ti, .int .i64 lo, .int .i64 hi, .slice A2 n2 c2, .int .i64 lev] ∧ W.cell? ⟨wo.heap.size, 0, none⟩ = some (.int .i64 ver) ∧ W.cell? ⟨wo.heap.size, 3, none⟩ = some (.int .i64 lo) ∧ W.cell? ⟨wo.heap.size, 4, none⟩ = some (.int .i64 hi) ∧ W.cell? ⟨wo.heap.size, 5, none⟩ = some (.slice A2 n2 c2)) (by kernel_rfl) (⟨HX1.out.drew, HX1.out.drew.cell 0, HX1.out.drew.cell 3, HX1.out.drew.cell 4, HX1.out.drew.cell 5⟩) (fun hHeld => ?_)
            refine held_load 0 (some 24) 31 (.tmp 13) (by rfl) (by kernel_rfl) (by kernel_rfl) (by kernel_rfl) (wo.heap.size) 31 #[.int .i64 ver, .int .i64 fr, .int .i64 ti, .int .i64 lo, .int .i64 hi, .slice A2 n2 c2, .int .i64 lev] (fun _ _ _ h => h) (by rfl) (fun _ h => h.1) _ Try.underlying31 rfl (by kernel_rfl) (by assumption) ?_
            try simp only [Act.put, List.setIfInBounds_toArray, List.set_cons_zero, List.set_cons_succ]
            refine held_run 1 (some 25) (.move (.tmp 4)) ?v6_7_1 (by rfl) (by kernel_rfl) (by kernel_rfl) (by kernel_rfl) (fun _ _ _ h => h) (fun o ho w hS => ?y6_7_1) (by assumption) ?r6_7_1
            case y6_7_1 => (try dsimp only at hS); unfold execOp; simp only [ho]; go_simp; try with_reducible rfl
            try simp only [Act.put, List.setIfInBounds_toArray, List.set_cons_zero, List.set_cons_succ]
            refine held_call 2 (some 26) 31 [(.tmp 24), (.tmp 25)] #[31, 3] #[.agg #[.int .i64 ver, .int .i64 fr, .int .i64 ti, .int .i64 lo, .int .i64 hi, .slice A2 n2 c2, .int .i64 lev], .int .i64 t] (by rfl) (by rfl) (by kernel_rfl) Try.func31 (by rfl) (by rfl) ?_
            refine (HCv.out _).mono ?_
            rintro e w2 ⟨rfl, hb2⟩
            have HW2 := Lib.hid (HB1.out.drew.trans (hb2.mono HB1.out.size))
            have HX2 := Lib.hid (HX1.out.drew.below hb2 hl1)
            have hl2 := Nat.lt_of_lt_of_le hl1 hb2.size
            have hH2 : (fun W => Blk W wo.heap.size 31 #[.int .i64 ver, .int .i64 fr, .int .i64 ti, .int .i64 lo, .int .i64 hi, .slice A2 n2 c2, .int .i64 lev] ∧ W.cell? ⟨wo.heap.size, 0, none⟩ = some (.int .i64 ver) ∧ W.cell? ⟨wo.heap.size, 3, none⟩ = some (.int .i64 lo) ∧ W.cell? ⟨wo.heap.size, 4, none⟩ = some (.int .i64 hi) ∧ W.cell? ⟨wo.heap.size, 5, none⟩ = some (.slice A2 n2 c2)) w2 := ⟨HX2.out, HX2.out.cell 0, HX2.out.cell 3, HX2.out.cell 4, HX2.out.cell 5⟩
            clear hb2
            refine ⟨_, rfl, hH2, ?_⟩
            try simp only [Act.put, List.setIfInBounds_toArray, List.set_cons_zero, List.set_cons_succ]
            refine held_run 3 (some 27) (.move (.tmp 26)) ?v6_7_3 (by rfl) (by kernel_rfl) (by kernel_rfl) (by kernel_rfl) (fun _ _ _ h => h) (fun o ho w hS => ?y6_7_3) (by assumption) ?r6_7_3
            case y6_7_3 => (try dsimp only at hS); unfold execOp; simp only [ho]; go_simp; try with_reducible rfl
            try simp only [Act.put, List.setIfInBounds_toArray, List.set_cons_zero, List.set_cons_succ]
            refine held_run 4 (some 28) (.fieldAddr 31 (.tmp 13) 0) ?v6_7_4 (by rfl) (by kernel_rfl) (by kernel_rfl) (by kernel_rfl) (fun _ _ _ h => h) (fun o ho w hS => ?y6_7_4) (by assumption) ?r6_7_4
            case y6_7_4 => (try dsimp only at hS); unfold execOp; simp only [ho]; go_simp; try with_reducible rfl
            try simp only [Act.put, List.setIfInBounds_toArray, List.set_cons_zero, List.set_cons_succ]
            refine held_run 5 (some 29) (.load 3 (.tmp 28)) ?v6_7_5 (by rfl) (by kernel_rfl) (by kernel_rfl) (by kernel_rfl) (fun _ _ _ h => h) (fun o ho w hS => ?y6_7_5) (by assumption) ?r6_7_5
            case y6_7_5 => (try dsimp only at hS); unfold execOp; simp only [ho]; go_simp; try with_reducible rfl
            try simp only [Act.put, List.setIfInBounds_toArray, List.set_cons_zero, List.set_cons_succ]
            refine held_run 6 (some 30) (.move (.tmp 0)) ?v6_7_6 (by rfl) (by kernel_rfl) (by kernel_rfl) (by kernel_rfl) (fun _ _ _ h => h) (fun o ho w hS => ?y6_7_6) (by assumption) ?r6_7_6
            case y6_7_6 => (try dsimp only at hS); unfold execOp; simp only [ho]; go_simp; try with_reducible rfl
            try simp only [Act.put, List.setIfInBounds_toArray, List.set_cons_zero, List.set_cons_succ]
            refine held_run 7 (some 31) (.move (.tmp 4)) ?v6_7_7 (by rfl) (by kernel_rfl) (by kernel_rfl) (by kernel_rfl) (fun _ _ _ h => h) (fun o ho w hS => ?y6_7_7) (by assumption) ?r6_7_7
            case y6_7_7 => (try dsimp only at hS); unfold execOp; simp only [ho]; go_simp; try with_reducible rfl
            try simp only [Act.put, List.setIfInBounds_toArray, List.set_cons_zero, List.set_cons_succ]
            refine held_call 8 (some 32) 18 [(.tmp 30), (.tmp 31)] #[22, 3] #[.slice (some ad) n c, .int .i64 t] (by rfl) (by rfl) (by kernel_rfl) Try.func18 (by rfl) (by rfl) ?_
            refine (HCu.out _ (HRo.out.now HW2.out)).mono ?_
            rintro e w3 ⟨rfl, hb3⟩
            have HW3 := Lib.hid (HW2.out.trans (hb3.mono HW2.out.size))
            have HX3 := Lib.hid (HX2.out.below hb3 hl2)
            have hl3 := Nat.lt_of_lt_of_le hl2 hb3.size
            have hH3 : (fun W => Blk W wo.heap.size 31 #[.int .i64 ver, .int .i64 fr, .int .i64 ti, .int .i64 lo, .int .i64 hi, .slice A2 n2 c2, .int .i64 lev] ∧ W.cell? ⟨wo.heap.size, 0, none⟩ = some (.int .i64 ver) ∧ W.cell? ⟨wo.heap.size, 3, none⟩ = some (.int .i64 lo) ∧ W.cell? ⟨wo.heap.size, 4, none⟩ = some (.int .i64 hi) ∧ W.cell? ⟨wo.heap.size, 5, none⟩ = some (.slice A2 n2 c2)) w3 := ⟨HX3.out, HX3.out.cell 0, HX3.out.cell 3, HX3.out.cell 4, HX3.out.cell 5⟩
            clear hb3
            refine ⟨_, rfl, hH3, ?_⟩
            try simp only [Act.put, List.setIfInBounds_toArray, List.set_cons_zero, List.set_cons_succ]
            refine held_run 9 (some 33) (.binOp .eql 3 (.tmp 29) (.tmp 32) 3) ?v6_7_9 (by rfl) (by kernel_rfl) (by kernel_rfl) (by kernel_rfl) (fun _ _ _ h => h) (fun o ho w hS => ?y6_7_9) (by assumption) ?r6_7_9
            case y6_7_9 => (try dsimp only at hS); unfold execOp; simp only [ho]; go_simp; try with_reducible rfl
            try simp only [Act.put, List.setIfInBounds_toArray, List.set_cons_zero, List.set_cons_succ]
            refine held_run 10 (some 34) (.pick (.tmp 27) (.tmp 33) (.const (Value.bool false))) ?v6_7_10 (by rfl) (by kernel_rfl) (by kernel_rfl) (by kernel_rfl) (fun _ _ _ h => h) (fun o ho w hS => ?y6_7_10) (by assumption) ?r6_7_10
            case y6_7_10 => (try dsimp only at hS); unfold execOp; simp only [ho]; go_simp; try with_reducible rfl
            try simp only [Act.put, List.setIfInBounds_toArray, List.set_cons_zero, List.set_cons_succ]
            refine held_run 11 (some 35) (.move (.tmp 34)) ?v6_7_11 (by rfl) (by kernel_rfl) (by kernel_rfl) (by kernel_rfl) (fun _ _ _ h => h) (fun o ho w hS => ?y6_7_11) (by assumption) ?r6_7_11
            case y6_7_11 => (try dsimp only at hS); unfold execOp; simp only [ho]; go_simp; try with_reducible rfl
            try simp only [Act.put, List.setIfInBounds_toArray, List.set_cons_zero, List.set_cons_succ]
            refine held_run 12 (some 36) (.fieldAddr 31 (.tmp 13) 4) ?v6_7_12 (by rfl) (by kernel_rfl) (by kernel_rfl) (by kernel_rfl) (fun _ _ _ h => h) (fun o ho w hS => ?y6_7_12) (by assumption) ?r6_7_12
            case y6_7_12 => (try dsimp only at hS); unfold execOp; simp only [ho]; go_simp; try with_reducible rfl
            try simp only [Act.put, List.setIfInBounds_toArray, List.set_cons_zero, List.set_cons_succ]
            refine held_run 13 (some 37) (.load 29 (.tmp 36)) ?v6_7_13 (by rfl) (by kernel_rfl) (by kernel_rfl) (by kernel_rfl) (fun _ _ _ h => h) (fun o ho w hS => ?y6_7_13) (by assumption) ?r6_7_13
            case y6_7_13 => (try dsimp only at hS); unfold execOp; simp only [ho]; go_simp; try with_reducible rfl
            try simp only [Act.put, List.setIfInBounds_toArray, List.set_cons_zero, List.set_cons_succ]
            refine held_run 14 (some 38) (.move (.tmp 1)) ?v6_7_14 (by rfl) (by kernel_rfl) (by kernel_rfl) (by kernel_rfl) (fun _ _ _ h => h) (fun o ho w hS => ?y6_7_14) (by assumption) ?r6_7_14
            case y6_7_14 => (try dsimp only at hS); unfold execOp; simp only [ho]; go_simp; try with_reducible rfl
            try simp only [Act.put, List.setIfInBounds_toArray, List.set_cons_zero, List.set_cons_succ]
            refine held_call 15 (some 39) 32 [(.tmp 37), (.tmp 38)] #[29, 3] #[.slice A2 n2 c2, .int .i64 zone] (by rfl) (by rfl) (by kernel_rfl) Try.func32 (by rfl) (by rfl) ?_
            refine (HCt.out _ (HZr.out.below (HW3.out.mono hsz))).mono ?_
            rintro e w' ⟨rfl, rfl⟩
            refine ⟨_, rfl, hH3, ?_⟩
            try simp only [Act.put, List.setIfInBounds_toArray, List.set_cons_zero, List.set_cons_succ]
            refine held_run 16 (some 40) (.pick (.tmp 35) (.tmp 39) (.const (Value.bool false))) ?v6_7_16 (by rfl) (by kernel_rfl) (by kernel_rfl) (by kernel_rfl) (fun _ _ _ h => h) (fun o ho w hS => ?y6_7_16) (by assumption) ?r6_7_16
            case y6_7_16 => (try dsimp only at hS); unfold execOp; simp only [ho]; go_simp; try with_reducible rfl
            try simp only [Act.put, List.setIfInBounds_toArray, List.set_cons_zero, List.set_cons_succ]
            refine held_run 17 (some 41) (.move (.tmp 40)) ?v6_7_17 (by rfl) (by kernel_rfl) (by kernel_rfl) (by kernel_rfl) (fun _ _ _ h => h) (fun o ho w hS => ?y6_7_17) (by assumption) ?r6_7_17
            case y6_7_17 => (try dsimp only at hS); unfold execOp; simp only [ho]; go_simp; try with_reducible rfl
            try simp only [Act.put, List.setIfInBounds_toArray, List.set_cons_zero, List.set_cons_succ]
            refine held_skip 18 (some 42) (by rfl) (by kernel_rfl) (by kernel_rfl) (by kernel_rfl) (fun _ _ _ h => h) (by assumption) ?_
            try simp only [Act.put, List.setIfInBounds_toArray, List.set_cons_zero, List.set_cons_succ]
            refine held_skip 19 (some 43) (by rfl) (by kernel_rfl) (by kernel_rfl) (by kernel_rfl) (fun _ _ _ h => h) (by assumption) ?_
            try simp only [Act.put, List.setIfInBounds_toArray, List.set_cons_zero, List.set_cons_succ]
            refine held_skip 20 (some 44) (by rfl) (by kernel_rfl) (by kernel_rfl) (by kernel_rfl) (fun _ _ _ h => h) (by assumption) ?_
            try simp only [Act.put, List.setIfInBounds_toArray, List.set_cons_zero, List.set_cons_succ]
            refine held_skip 21 (some 45) (by rfl) (by kernel_rfl) (by kernel_rfl) (by kernel_rfl) (fun _ _ _ h => h) (by assumption) ?_
            try simp only [Act.put, List.setIfInBounds_toArray, List.set_cons_zero, List.set_cons_succ]
            refine held_run 22 (some 46) (.pick (.tmp 41) (.tmp 45) (.const (Value.bool false))) ?v6_7_22 (by rfl) (by kernel_rfl) (by kernel_rfl) (by kernel_rfl) (fun _ _ _ h => h) (fun o ho w hS => ?y6_7_22) (by assumption) ?r6_7_22
            case y6_7_22 => (try dsimp only at hS); unfold execOp; simp only [ho]; go_simp; try with_reducible rfl
            try simp only [Act.put, List.setIfInBounds_toArray, List.set_cons_zero, List.set_cons_succ]
            refine held_run 23 (some 47) (.move (.tmp 46)) ?v6_7_23 (by rfl) (by kernel_rfl) (by kernel_rfl) (by kernel_rfl) (fun _ _ _ h => h) (fun o ho w hS => ?y6_7_23) (by assumption) ?r6_7_23
            case y6_7_23 => (try dsimp only at hS); unfold execOp; simp only [ho]; go_simp; try with_reducible rfl
            try simp only [Act.put, List.setIfInBounds_toArray, List.set_cons_zero, List.set_cons_succ]
            refine held_skip 24 (some 48) (by rfl) (by kernel_rfl) (by kernel_rfl) (by kernel_rfl) (fun _ _ _ h => h) (by assumption) ?_
            try simp only [Act.put, List.setIfInBounds_toArray, List.set_cons_zero, List.set_cons_succ]
            refine held_skip 25 (some 49) (by rfl) (by kernel_rfl) (by kernel_rfl) (by kernel_rfl) (fun _ _ _ h => h) (by assumption) ?_
            try simp only [Act.put, List.setIfInBounds_toArray, List.set_cons_zero, List.set_cons_succ]
            refine held_skip 26 (some 50) (by rfl) (by kernel_rfl) (by kernel_rfl) (by kernel_rfl) (fun _ _ _ h => h) (by assumption) ?_
            try simp only [Act.put, List.setIfInBounds_toArray, List.set_cons_zero, List.set_cons_succ]
            refine held_skip 27 (some 51) (by rfl) (by kernel_rfl) (by kernel_rfl) (by kernel_rfl) (fun _ _ _ h => h) (by assumption) ?_
            try simp only [Act.put, List.setIfInBounds_toArray, List.set_cons_zero, List.set_cons_succ]
            refine held_run 28 (some 52) (.pick (.tmp 47) (.tmp 51) (.const (Value.bool false))) ?v6_7_28 (by rfl) (by kernel_rfl) (by kernel_rfl) (by kernel_rfl) (fun _ _ _ h => h) (fun o ho w hS => ?y6_7_28) (by assumption) ?r6_7_28
            case y6_7_28 => (try dsimp only at hS); unfold execOp; simp only [ho]; go_simp; try with_reducible rfl
            try simp only [Act.put, List.setIfInBounds_toArray, List.set_cons_zero, List.set_cons_succ]
            refine wpAnyH_done (by kernel_rfl) ?_ _
            have HBB3 := Lib.hid (HB.out.trans (HW3.out.mono hsz))
            have f6 : w3.cell? ⟨wo.heap.size, 6, none⟩ = some (.int .i64 lev) := HX3.out.cell 6
            have HN : Hid (levF (placeB cv zone low high t) 0 (bs.take (k + 1)) = v) := hide (HSn.out.trans (if_neg (fun h => by cases h.1)))
            go_wp2_with fail
            go_roundw
            case rel => exact ⟨k + 1, by omega, by go_num, by rw [HN.out], HBB3.out⟩
            case measure => simp [intOf]; omega
        · have dvv : (ver == cv) = false := beq_eq_false_iff_ne.2 hvv
          have dv2 : decide (ver = cv) = false := decide_eq_false hvv
          rw [dv2] at HSn
          clear hvv dv2
          refine wp_region_held_drew (S := fun W => Blk W wo.heap.size 31 #[.int .i64 ver, .int .i64 fr, .int .i64 ti, .int .i64 lo, .int .i64 hi, .slice A2 n2 c2, .int .i64 lev] ∧ W.cell? ⟨wo.heap.size, 0, none⟩ = some (.int .i64 ver) ∧ W.cell? ⟨wo.heap.size, 3, none⟩ = some (.int .i64 lo) ∧ W.cell? ⟨wo.heap.size, 4, none⟩ = some (.int .i64 hi) ∧ W.cell? ⟨wo.heap.size, 5, none⟩ = some (.slice A2 n2 c2)) (by kernel_rfl) (⟨HX1.out.drew, HX1.out.drew.cell 0, HX1.out.drew.cell 3, HX1.out.drew.cell 4, HX1.out.drew.cell 5⟩) (fun hHeld => ?_)
          refine held_load 0 (some 24) 31 (.tmp 13) (by rfl) (by kernel_rfl) (by kernel_rfl) (by kernel_rfl) (wo.heap.size) 31 #[.int .i64 ver, .int .i64 fr, .int .i64 ti, .int .i64 lo, .int .i64 hi, .slice A2 n2 c2, .int .i64 lev] (fun _ _ _ h => h) (by rfl) (fun _ h => h.1) _ Try.underlying31 rfl (by kernel_rfl) (by assumption) ?_
          try simp only [Act.put, List.setIfInBounds_toArray, List.set_cons_zero, List.set_cons_succ]
          refine held_run 1 (some 25) (.move (.tmp 4)) ?v6_8_1 (by rfl) (by kernel_rfl) (by kernel_rfl) (by kernel_rfl) (fun _ _ _ h => h) (fun o ho w hS => ?y6_8_1) (by assumption) ?r6_8_1
          case y6_8_1 => (try dsimp only at hS); unfold execOp; simp only [ho]; go_simp; try with_reducible rfl
          try simp only [Act.put, List.setIfInBounds_toArray, List.set_cons_zero, List.set_cons_succ]
          refine held_call 2 (some 26) 31 [(.tmp 24), (.tmp 25)] #[31, 3] #[.agg #[.int .i64 ver, .int .i64 fr, .int .i64 ti, .int .i64 lo, .int .i64 hi, .slice A2 n2 c2, .int .i64 lev], .int .i64 t] (by rfl) (by rfl) (by kernel_rfl) Try.func31 (by rfl) (by rfl) ?_
          refine (HCv.out _).mono ?_
          rintro e w2 ⟨rfl, hb2⟩
          have HW2 := Lib.hid (HB1.out.drew.trans (hb2.mono HB1.out.size))
          have HX2 := Lib.hid (HX1.out.drew.below hb2 hl1)
          have hl2 := Nat.lt_of_lt_of_le hl1 hb2.size
          have hH2 : (fun W => Blk W wo.heap.size 31 #[.int .i64 ver, .int .i64 fr, .int .i64 ti, .int .i64 lo, .int .i64 hi, .slice A2 n2 c2, .int .i64 lev] ∧ W.cell? ⟨wo.heap.size, 0, none⟩ = some (.int .i64 ver) ∧ W.cell? ⟨wo.heap.size, 3, none⟩ = some (.int .i64 lo) ∧ W.cell? ⟨wo.heap.size, 4, none⟩ = some (.int .i64 hi) ∧ W.cell? ⟨wo.heap.size, 5, none⟩ = some (.slice A2 n2 c2)) w2 := ⟨HX2.out, HX2.out.cell 0, HX2.out.cell 3, HX2.out.cell 4, HX2.out.cell 5⟩
          clear hb2
          refine ⟨_, rfl, hH2, ?_⟩
          try simp only [Act.put, List.setIfInBounds_toArray, List.set_cons_zero, List.set_cons_succ]
          refine held_run 3 (some 27) (.move (.tmp 26)) ?v6_8_3 (by rfl) (by kernel_rfl) (by kernel_rfl) (by kernel_rfl) (fun _ _ _ h => h) (fun o ho w hS => ?y6_8_3) (by assumption) ?r6_8_3
          case y6_8_3 => (try dsimp only at hS); unfold execOp; simp only [ho]; go_simp; try with_reducible rfl
          try simp only [Act.put, List.setIfInBounds_toArray, List.set_cons_zero, List.set_cons_succ]
          refine held_run 4 (some 28) (.fieldAddr 31 (.tmp 13) 0) ?v6_8_4 (by rfl) (by kernel_rfl) (by kernel_rfl) (by kernel_rfl) (fun _ _ _ h => h) (fun o ho w hS => ?y6_8_4) (by assumption) ?r6_8_4
          case y6_8_4 => (try dsimp only at hS); unfold execOp; simp only [ho]; go_simp; try with_reducible rfl
          try simp only [Act.put, List.setIfInBounds_toArray, List.set_cons_zero, List.set_cons_succ]
          refine held_run 5 (some 29) (.load 3 (.tmp 28)) ?v6_8_5 (by rfl) (by kernel_rfl) (by kernel_rfl) (by kernel_rfl) (fun _ _ _ h => h) (fun o ho w hS => ?y6_8_5) (by assumption) ?r6_8_5
          case y6_8_5 => (try dsimp only at hS); unfold execOp; simp only [ho]; go_simp; try with_reducible rfl
          try simp only [Act.put, List.setIfInBounds_toArray, List.set_cons_zero, List.set_cons_succ]
          refine held_run 6 (some 30) (.move (.tmp 0)) ?v6_8_6 (by rfl) (by kernel_rfl) (by kernel_rfl) (by kernel_rfl) (fun _ _ _ h => h) (fun o ho w hS => ?y6_8_6) (by assumption) ?r6_8_6
          case y6_8_6 => (try dsimp only at hS); unfold execOp; simp only [ho]; go_simp; try with_reducible rfl
          try simp only [Act.put, List.setIfInBounds_toArray, List.set_cons_zero, List.set_cons_succ]
          refine held_run 7 (some 31) (.move (.tmp 4)) ?v6_8_7 (by rfl) (by kernel_rfl) (by kernel_rfl) (by kernel_rfl) (fun _ _ _ h => h) (fun o ho w hS => ?y6_8_7) (by assumption) ?r6_8_7
          case y6_8_7 => (try dsimp only at hS); unfold execOp; simp only [ho]; go_simp; try with_reducible rfl
          try simp only [Act.put, List.setIfInBounds_toArray, List.set_cons_zero, List.set_cons_succ]
          refine held_call 8 (some 32) 18 [(.tmp 30), (.tmp 31)] #[22, 3] #[.slice (some ad) n c, .int .i64 t] (by rfl) (by rfl) (by kernel_rfl) Try.func18 (by rfl) (by rfl) ?_
          refine (HCu.out _ (HRo.out.now HW2.out)).mono ?_
          rintro e w3 ⟨rfl, hb3⟩
          have HW3 := Lib.hid (HW2.out.trans (hb3.mono HW2.out.size))
          have HX3 := Lib.hid (HX2.out.below hb3 hl2)
          have hl3 := Nat.lt_of_lt_of_le hl2 hb3.size
          have hH3 : (fun W => Blk W wo.heap.size 31 #[.int .i64 ver, .int .i64 fr, .int .i64 ti, .int .i64 lo, .int .i64 hi, .slice A2 n2 c2, .int .i64 lev] ∧ W.cell? ⟨wo.heap.size, 0, none⟩ = some (.int .i64 ver) ∧ W.cell? ⟨wo.heap.size, 3, none⟩ = some (.int .i64 lo) ∧ W.cell? ⟨wo.heap.size, 4, none⟩ = some (.int .i64 hi) ∧ W.cell? ⟨wo.heap.size, 5, none⟩ = some (.slice A2 n2 c2)) w3 := ⟨HX3.out, HX3.out.cell 0, HX3.out.cell 3, HX3.out.cell 4, HX3.out.cell 5⟩
          clear hb3
          refine ⟨_, rfl, hH3, ?_⟩
          try simp only [Act.put, List.setIfInBounds_toArray, List.set_cons_zero, List.set_cons_succ]
          refine held_run 9 (some 33) (.binOp .eql 3 (.tmp 29) (.tmp 32) 3) ?v6_8_9 (by rfl) (by kernel_rfl) (by kernel_rfl) (by kernel_rfl) (fun _ _ _ h => h) (fun o ho w hS => ?y6_8_9) (by assumption) ?r6_8_9
          case y6_8_9 => (try dsimp only at hS); unfold execOp; simp only [ho]; go_simp; try with_reducible rfl
          try simp only [Act.put, List.setIfInBounds_toArray, List.set_cons_zero, List.set_cons_succ]
          refine held_run 10 (some 34) (.pick (.tmp 27) (.tmp 33) (.const (Value.bool false))) ?v6_8_10 (by rfl) (by kernel_rfl) (by kernel_rfl) (by kernel_rfl) (fun _ _ _ h => h) (fun o ho w hS => ?y6_8_10) (by assumption) ?r6_8_10
          case y6_8_10 => (try dsimp only at hS); unfold execOp; simp only [ho]; go_simp; try with_reducible rfl
          try simp only [Act.put, List.setIfInBounds_toArray, List.set_cons_zero, List.set_cons_succ]
          refine held_run 11 (some 35) (.move (.tmp 34)) ?v6_8_11 (by rfl) (by kernel_rfl) (by kernel_rfl) (by kernel_rfl) (fun _ _ _ h => h) (fun o ho w hS => ?y6_8_11) (by assumption) ?r6_8_11
          case y6_8_11 => (try dsimp only at hS); unfold execOp; simp only [ho]; go_simp; try with_reducible rfl
          try simp only [Act.put, List.setIfInBounds_toArray, List.set_cons_zero, List.set_cons_succ]
          refine held_skip 12 (some 36) (by rfl) (by kernel_rfl) (by kernel_rfl) (by kernel_rfl) (fun _ _ _ h => h) (by assumption) ?_
          try simp only [Act.put, List.setIfInBounds_toArray, List.set_cons_zero, List.set_cons_succ]
          refine held_skip 13 (some 37) (by rfl) (by kernel_rfl) (by kernel_rfl) (by kernel_rfl) (fun _ _ _ h => h) (by assumption) ?_
          try simp only [Act.put, List.setIfInBounds_toArray, List.set_cons_zero, List.set_cons_succ]
          refine held_skip 14 (some 38) (by rfl) (by kernel_rfl) (by kernel_rfl) (by kernel_rfl) (fun _ _ _ h => h) (by assumption) ?_
          try simp only [Act.put, List.setIfInBounds_toArray, List.set_cons_zero, List.set_cons_succ]
          refine held_skip 15 (some 39) (by rfl) (by kernel_rfl) (by kernel_rfl) (by kernel_rfl) (fun _ _ _ h => h) (by assumption) ?_
          try simp only [Act.put, List.setIfInBounds_toArray, List.set_cons_zero, List.set_cons_succ]
          refine held_run 16 (some 40) (.pick (.tmp 35) (.tmp 39) (.const (Value.bool false))) ?v6_8_16 (by rfl) (by kernel_rfl) (by kernel_rfl) (by kernel_rfl) (fun _ _ _ h => h) (fun o ho w hS => ?y6_8_16) (by assumption) ?r6_8_16
          case y6_8_16 => (try dsimp only at hS); unfold execOp; simp only [ho]; go_simp; try with_reducible rfl
          try simp only [Act.put, List.setIfInBounds_toArray, List.set_cons_zero, List.set_cons_succ]
          refine held_run 17 (some 41) (.move (.tmp 40)) ?v6_8_17 (by rfl) (by kernel_rfl) (by kernel_rfl) (by kernel_rfl) (fun _ _ _ h => h) (fun o ho w hS => ?y6_8_17) (by assumption) ?r6_8_17
          case y6_8_17 => (try dsimp only at hS); unfold execOp; simp only [ho]; go_simp; try with_reducible rfl
          try simp only [Act.put, List.setIfInBounds_toArray, List.set_cons_zero, List.set_cons_succ]
          refine held_skip 18 (some 42) (by rfl) (by kernel_rfl) (by kernel_rfl) (by kernel_rfl) (fun _ _ _ h => h) (by assumption) ?_
          try simp only [Act.put, List.setIfInBounds_toArray, List.set_cons_zero, List.set_cons_succ]
          refine held_skip 19 (some 43) (by rfl) (by kernel_rfl) (by kernel_rfl) (by kernel_rfl) (fun _ _ _ h => h) (by assumption) ?_
          try simp only [Act.put, List.setIfInBounds_toArray, List.set_cons_zero, List.set_cons_succ]
          refine held_skip 20 (some 44) (by rfl) (by kernel_rfl) (by kernel_rfl) (by kernel_rfl) (fun _ _ _ h => h) (by assumption) ?_
          try simp only [Act.put, List.setIfInBounds_toArray, List.set_cons_zero, List.set_cons_succ]
          refine held_skip 21 (some 45) (by rfl) (by kernel_rfl) (by kernel_rfl) (by kernel_rfl) (fun _ _ _ h => h) (by assumption) ?_
          try simp only [Act.put, List.setIfInBounds_toArray, List.set_cons_zero, List.set_cons_succ]
          refine held_run 22 (some 46) (.pick (.tmp 41) (.tmp 45) (.const (Value.bool false))) ?v6_8_22 (by rfl) (by kernel_rfl) (by kernel_rfl) (by kernel_rfl) (fun _ _ _ h => h) (fun o ho w hS => ?y6_8_22) (by assumption) ?r6_8_22
          case y6_8_22 => (try dsimp only at hS); unfold execOp; simp only [ho]; go_simp; try with_reducible rfl
          try simp only [Act.put, List.setIfInBounds_toArray, List.set_cons_zero, List.set_cons_succ]
          refine held_run 23 (some 47) (.move (.tmp 46)) ?v6_8_23 (by rfl) (by kernel_rfl) (by kernel_rfl) (by kernel_rfl) (fun _ _ _ h => h) (fun o ho w hS => ?y6_8_23) (by assumption) ?r6_8_23
          case y6_8_23 => (try dsimp only at hS); unfold execOp; simp only [ho]; go_simp; try with_reducible rfl
          try simp only [Act.put, List.setIfInBounds_toArray, List.set_cons_zero, List.set_cons_succ]
          refine held_skip 24 (some 48) (by rfl) (by kernel_rfl) (by kernel_rfl) (by kernel_rfl) (fun _ _ _ h => h) (by assumption) ?_
          try simp only [Act.put, List.setIfInBounds_toArray, List.set_cons_zero, List.set_cons_succ]
          refine held_skip 25 (some 49) (by rfl) (by kernel_rfl) (by kernel_rfl) (by kernel_rfl) (fun _ _ _ h => h) (by assumption) ?_
          try simp only [Act.put, List.setIfInBounds_toArray, List.set_cons_zero, List.set_cons_succ]
          refine held_skip 26 (some 50) (by rfl) (by kernel_rfl) (by kernel_rfl) (by kernel_rfl) (fun _ _ _ h => h) (by assumption) ?_
          try simp only [Act.put, List.setIfInBounds_toArray, List.set_cons_zero, List.set_cons_succ]
          refine held_skip 27 (some 51) (by rfl) (by kernel_rfl) (by kernel_rfl) (by kernel_rfl) (fun _ _ _ h => h) (by assumption) ?_
          try simp only [Act.put, List.setIfInBounds_toArray, List.set_cons_zero, List.set_cons_succ]
          refine held_run 28 (some 52) (.pick (.tmp 47) (.tmp 51) (.const (Value.bool false))) ?v6_8_28 (by rfl) (by kernel_rfl) (by kernel_rfl) (by kernel_rfl) (fun _ _ _ h => h) (fun o ho w hS => ?y6_8_28) (by assumption) ?r6_8_28
          case y6_8_28 => (try dsimp only at hS); unfold execOp; simp only [ho]; go_simp; try with_reducible rfl
          try simp only [Act.put, List.setIfInBounds_toArray, List.set_cons_zero, List.set_cons_succ]
          refine wpAnyH_done (by kernel_rfl) ?_ _
          have HBB3 := Lib.hid (HB.out.trans (HW3.out.mono hsz))
          have f6 : w3.cell? ⟨wo.heap.size, 6, none⟩ = some (.int .i64 lev) := HX3.out.cell 6
          have HN : Hid (levF (placeB cv zone low high t) 0 (bs.take (k + 1)) = v) := hide (HSn.out.trans (if_neg (fun h => by cases h.1)))
          go_wp2_with fail
          go_roundw
          case rel => exact ⟨k + 1, by omega, by go_num, by rw [HN.out], HBB3.out⟩
          case measure => simp [intOf]; omega
      | false =>
        rw [Bool.and_false, Bool.false_and] at HSn
        refine wp_region_held_drew (S := fun W => Blk W wo.heap.size 31 #[.int .i64 ver, .int .i64 fr, .int .i64 ti, .int .i64 lo, .int .i64 hi, .slice A2 n2 c2, .int .i64 lev] ∧ W.cell? ⟨wo.heap.size, 0, none⟩ = some (.int .i64 ver) ∧ W.cell? ⟨wo.heap.size, 3, none⟩ = some (.int .i64 lo) ∧ W.cell? ⟨wo.heap.size, 4, none⟩ = some (.int .i64 hi) ∧ W.cell? ⟨wo.heap.size, 5, none⟩ = some (.slice A2 n2 c2)) (by kernel_rfl) (⟨HX1.out.drew, HX1.out.drew.cell 0, HX1.out.drew.cell 3, HX1.out.drew.cell 4, HX1.out.drew.cell 5⟩) (fun hHeld => ?_)
        refine held_load 0 (some 24) 31 (.tmp 13) (by rfl) (by kernel_rfl) (by kernel_rfl) (by kernel_rfl) (wo.heap.size) 31 #[.int .i64 ver, .int .i64 fr, .int .i64 ti, .int .i64 lo, .int .i64 hi, .slice A2 n2 c2, .int .i64 lev] (fun _ _ _ h => h) (by rfl) (fun _ h => h.1) _ Try.underlying31 rfl (by kernel_rfl) (by assumption) ?_
        try simp only [Act.put, List.setIfInBounds_toArray, List.set_cons_zero, List.set_cons_succ]
        refine held_run 1 (some 25) (.move (.tmp 4)) ?v6_9_1 (by rfl) (by kernel_rfl) (by kernel_rfl) (by kernel_rfl) (fun _ _ _ h => h) (fun o ho w hS => ?y6_9_1) (by assumption) ?r6_9_1
        case y6_9_1 => (try dsimp only at hS); unfold execOp; simp only [ho]; go_simp; try with_reducible rfl
        try simp only [Act.put, List.setIfInBounds_toArray, List.set_cons_zero, List.set_cons_succ]
        refine held_call 2 (some 26) 31 [(.tmp 24), (.tmp 25)] #[31, 3] #[.agg #[.int .i64 ver, .int .i64 fr, .int .i64 ti, .int .i64 lo, .int .i64 hi, .slice A2 n2 c2, .int .i64 lev], .int .i64 t] (by rfl) (by rfl) (by kernel_rfl) Try.func31 (by rfl) (by rfl) ?_
        refine (HCv.out _).mono ?_
        rintro e w2 ⟨rfl, hb2⟩
        have HW2 := Lib.hid (HB1.out.drew.trans (hb2.mono HB1.out.size))
        have HX2 := Lib.hid (HX1.out.drew.below hb2 hl1)
        have hl2 := Nat.lt_of_lt_of_le hl1 hb2.size
        have hH2 : (fun W => Blk W wo.heap.size 31 #[.int .i64 ver, .int .i64 fr, .int .i64 ti, .int .i64 lo, .int .i64 hi, .slice A2 n2 c2, .int .i64 lev] ∧ W.cell? ⟨wo.heap.size, 0, none⟩ = some (.int .i64 ver) ∧ W.cell? ⟨wo.heap.size, 3, none⟩ = some (.int .i64 lo) ∧ W.cell? ⟨wo.heap.size, 4, none⟩ = some (.int .i64 hi) ∧ W.cell? ⟨wo.heap.size, 5, none⟩ = some (.slice A2 n2 c2)) w2 := ⟨HX2.out, HX2.out.cell 0, HX2.out.cell 3, HX2.out.cell 4, HX2.out.cell 5⟩
        clear hb2
        refine ⟨_, rfl, hH2, ?_⟩
        try simp only [Act.put, List.setIfInBounds_toArray, List.set_cons_zero, List.set_cons_succ]
        refine held_run 3 (some 27) (.move (.tmp 26)) ?v6_9_3 (by rfl) (by kernel_rfl) (by kernel_rfl) (by kernel_rfl) (fun _ _ _ h => h) (fun o ho w hS => ?y6_9_3) (by assumption) ?r6_9_3
        case y6_9_3 => (try dsimp only at hS); unfold execOp; simp only [ho]; go_simp; try with_reducible rfl
        try simp only [Act.put, List.setIfInBounds_toArray, List.set_cons_zero, List.set_cons_succ]
        refine held_skip 4 (some 28) (by rfl) (by kernel_rfl) (by kernel_rfl) (by kernel_rfl) (fun _ _ _ h => h) (by assumption) ?_
        try simp only [Act.put, List.setIfInBounds_toArray, List.set_cons_zero, List.set_cons_succ]
        refine held_skip 5 (some 29) (by rfl) (by kernel_rfl) (by kernel_rfl) (by kernel_rfl) (fun _ _ _ h => h) (by assumption) ?_
        try simp only [Act.put, List.setIfInBounds_toArray, List.set_cons_zero, List.set_cons_succ]
        refine held_skip 6 (some 30) (by rfl) (by kernel_rfl) (by kernel_rfl) (by kernel_rfl) (fun _ _ _ h => h) (by assumption) ?_
        try simp only [Act.put, List.setIfInBounds_toArray, List.set_cons_zero, List.set_cons_succ]
        refine held_skip 7 (some 31) (by rfl) (by kernel_rfl) (by kernel_rfl) (by kernel_rfl) (fun _ _ _ h => h) (by assumption) ?_
        try simp only [Act.put, List.setIfInBounds_toArray, List.set_cons_zero, List.set_cons_succ]
        refine held_skip 8 (some 32) (by rfl) (by kernel_rfl) (by kernel_rfl) (by kernel_rfl) (fun _ _ _ h => h) (by assumption) ?_
        try simp only [Act.put, List.setIfInBounds_toArray, List.set_cons_zero, List.set_cons_succ]
        refine held_skip 9 (some 33) (by rfl) (by kernel_rfl) (by kernel_rfl) (by kernel_rfl) (fun _ _ _ h => h) (by assumption) ?_
        try simp only [Act.put, List.setIfInBounds_toArray, List.set_cons_zero, List.set_cons_succ]
        refine held_run 10 (some 34) (.pick (.tmp 27) (.tmp 33) (.const (Value.bool false))) ?v6_9_10 (by rfl) (by kernel_rfl) (by kernel_rfl) (by kernel_rfl) (fun _ _ _ h => h) (fun o ho w hS => ?y6_9_10) (by assumption) ?r6_9_10
        case y6_9_10 => (try dsimp only at hS); unfold execOp; simp only [ho]; go_simp; try with_reducible rfl
        try simp only [Act.put, List.setIfInBounds_toArray, List.set_cons_zero, List.set_cons_succ]
        refine held_run 11 (some 35) (.move (.tmp 34)) ?v6_9_11 (by rfl) (by kernel_rfl) (by kernel_rfl) (by kernel_rfl) (fun _ _ _ h => h) (fun o ho w hS => ?y6_9_11) (by assumption) ?r6_9_11
        case y6_9_11 => (try dsimp only at hS); unfold execOp; simp only [ho]; go_simp; try with_reducible rfl
        try simp only [Act.put, List.setIfInBounds_toArray, List.set_cons_zero, List.set_cons_succ]
        refine held_skip 12 (some 36) (by rfl) (by kernel_rfl) (by kernel_rfl) (by kernel_rfl) (fun _ _ _ h => h) (by assumption) ?_
        try simp only [Act.put, List.setIfInBounds_toArray, List.set_cons_zero, List.set_cons_succ]
        refine held_skip 13 (some 37) (by rfl) (by kernel_rfl) (by kernel_rfl) (by kernel_rfl) (fun _ _ _ h => h) (by assumption) ?_
        try simp only [Act.put, List.setIfInBounds_toArray, List.set_cons_zero, List.set_cons_succ]
        refine held_skip 14 (some 38) (by rfl) (by kernel_rfl) (by kernel_rfl) (by kernel_rfl) (fun _ _ _ h => h) (by assumption) ?_
        try simp only [Act.put, List.setIfInBounds_toArray, List.set_cons_zero, List.set_cons_succ]
        refine held_skip 15 (some 39) (by rfl) (by kernel_rfl) (by kernel_rfl) (by kernel_rfl) (fun _ _ _ h => h) (by assumption) ?_
        try simp only [Act.put, List.setIfInBounds_toArray, List.set_cons_zero, List.set_cons_succ]
        refine held_run 16 (some 40) (.pick (.tmp 35) (.tmp 39) (.const (Value.bool false))) ?v6_9_16 (by rfl) (by kernel_rfl) (by kernel_rfl) (by kernel_rfl) (fun _ _ _ h => h) (fun o ho w hS => ?y6_9_16) (by assumption) ?r6_9_16
        case y6_9_16 => (try dsimp only at hS); unfold execOp; simp only [ho]; go_simp; try with_reducible rfl
        try simp only [Act.put, List.setIfInBounds_toArray, List.set_cons_zero, List.set_cons_succ]
        refine held_run 17 (some 41) (.move (.tmp 40)) ?v6_9_17 (by rfl) (by kernel_rfl) (by kernel_rfl) (by kernel_rfl) (fun _ _ _ h => h) (fun o ho w hS => ?y6_9_17) (by assumption) ?r6_9_17
        case y6_9_17 => (try dsimp only at hS); unfold execOp; simp only [ho]; go_simp; try with_reducible rfl
        try simp only [Act.put, List.setIfInBounds_toArray, List.set_cons_zero, List.set_cons_succ]
        refine held_skip 18 (some 42) (by rfl) (by kernel_rfl) (by kernel_rfl) (by kernel_rfl) (fun _ _ _ h => h) (by assumption) ?_
        try simp only [Act.put, List.setIfInBounds_toArray, List.set_cons_zero, List.set_cons_succ]
        refine held_skip 19 (some 43) (by rfl) (by kernel_rfl) (by kernel_rfl) (by kernel_rfl) (fun _ _ _ h => h) (by assumption) ?_
        try simp only [Act.put, List.setIfInBounds_toArray, List.set_cons_zero, List.set_cons_succ]
        refine held_skip 20 (some 44) (by rfl) (by kernel_rfl) (by kernel_rfl) (by kernel_rfl) (fun _ _ _ h => h) (by assumption) ?_
        try simp only [Act.put, List.setIfInBounds_toArray, List.set_cons_zero, List.set_cons_succ]
        refine held_skip 21 (some 45) (by rfl) (by kernel_rfl) (by kernel_rfl) (by kernel_rfl) (fun _ _ _ h => h) (by assumption) ?_
        try simp only [Act.put, List.setIfInBounds_toArray, List.set_cons_zero, List.set_cons_succ]
        refine held_run 22 (some 46) (.pick (.tmp 41) (.tmp 45) (.const (Value.bool false))) ?v6_9_22 (by rfl) (by kernel_rfl) (by kernel_rfl) (by kernel_rfl) (fun _ _ _ h => h) (fun o ho w hS => ?y6_9_22) (by assumption) ?r6_9_22
        case y6_9_22 => (try dsimp only at hS); unfold execOp; simp only [ho]; go_simp; try with_reducible rfl
        try simp only [Act.put, List.setIfInBounds_toArray, List.set_cons_zero, List.set_cons_succ]
        refine held_run 23 (some 47) (.move (.tmp 46)) ?v6_9_23 (by rfl) (by kernel_rfl) (by kernel_rfl) (by kernel_rfl) (fun _ _ _ h => h) (fun o ho w hS => ?y6_9_23) (by assumption) ?r6_9_23
        case y6_9_23 => (try dsimp only at hS); unfold execOp; simp only [ho]; go_simp; try with_reducible rfl
        try simp only [Act.put, List.setIfInBounds_toArray, List.set_cons_zero, List.set_cons_succ]
        refine held_skip 24 (some 48) (by rfl) (by kernel_rfl) (by kernel_rfl) (by kernel_rfl) (fun _ _ _ h => h) (by assumption) ?_
        try simp only [Act.put, List.setIfInBounds_toArray, List.set_cons_zero, List.set_cons_succ]
        refine held_skip 25 (some 49) (by rfl) (by kernel_rfl) (by kernel_rfl) (by kernel_rfl) (fun _ _ _ h => h) (by assumption) ?_
        try simp only [Act.put, List.setIfInBounds_toArray, List.set_cons_zero, List.set_cons_succ]
        refine held_skip 26 (some 50) (by rfl) (by kernel_rfl) (by kernel_rfl) (by kernel_rfl) (fun _ _ _ h => h) (by assumption) ?_
        try simp only [Act.put, List.setIfInBounds_toArray, List.set_cons_zero, List.set_cons_succ]
        refine held_skip 27 (some 51) (by rfl) (by kernel_rfl) (by kernel_rfl) (by kernel_rfl) (fun _ _ _ h => h) (by assumption) ?_
        try simp only [Act.put, List.setIfInBounds_toArray, List.set_cons_zero, List.set_cons_succ]
        refine held_run 28 (some 52) (.pick (.tmp 47) (.tmp 51) (.const (Value.bool false))) ?v6_9_28 (by rfl) (by kernel_rfl) (by kernel_rfl) (by kernel_rfl) (fun _ _ _ h => h) (fun o ho w hS => ?y6_9_28) (by assumption) ?r6_9_28
        case y6_9_28 => (try dsimp only at hS); unfold execOp; simp only [ho]; go_simp; try with_reducible rfl
        try simp only [Act.put, List.setIfInBounds_toArray, List.set_cons_zero, List.set_cons_succ]
        refine wpAnyH_done (by kernel_rfl) ?_ _
        have HBB2 := Lib.hid (HB.out.trans (HW2.out.mono hsz))
        have f6 : w2.cell? ⟨wo.heap.size, 6, none⟩ = some (.int .i64 lev) := HX2.out.cell 6
        have HN : Hid (levF (placeB cv zone low high t) 0 (bs.take (k + 1)) = v) := hide (HSn.out.trans (if_neg (fun h => by cases h.1)))
        go_wp2_with fail
        go_roundw
        case rel => exact ⟨k + 1, by omega, by go_num, by rw [HN.out], HBB2.out⟩
        case measure => simp [intOf]; omega
    · obtain rfl : k = n := by omega
      rw [List.take_of_length_le (by rw [HL.out]; exact Nat.le_refl _)]
      go_wp2_with fail
      go_ret
      exact ⟨rfl, HB.out⟩
end Go.Proofs.Ytmbdlnimegdigaa
