/-
  SameInts, and Small of chapter 10, walked; what the vehicles of the law's example do there.
-/
import Derived.Test.YtegijfmdjaehjaaGruD
import Derived.Test.YtegijfmdjaehjaaGruE
import Derived.Test.YtegijfmdjaehjaaHasN
import Derived.Test.YtegijfmdjaehjaaLitM
namespace Go.Proofs.Ytegijfmdjaehjaa
open Go.RowKit

theorem take_eq_succ (l l' : List Int) (k : Nat) (h : k < l.length) (h' : k < l'.length) (e : l.take k = l'.take k) (e2 : l.getD k 0 = l'.getD k 0) : l.take (k + 1) = l'.take (k + 1) := by
  rw [take_at l k h, take_at l' k h', e, e2]
set_option maxRecDepth 100000 in
set_option maxHeartbeats 4000000 in
theorem same_ints (v v' : Value) (l l' : List Int) (b : Bool) (w : World) (hr : RowV w w.heap.size v l) (hr' : RowV w w.heap.size v' l') (hb : decide (l = l') = b) :
    Calls Try.prog 25 #[v, v'] w fun e w' => e = .returned (.bool b) ∧ Below w.heap.size w w' := by
  obtain ⟨A, n, c, rfl, HL, h1, h2, hr⟩ := hr.nam
  obtain ⟨A', n', c', rfl, HL', h3, h4, hr'⟩ := hr'.nam
  have HR := Lib.hid hr
  have HR' := Lib.hid hr'
  have HB := Lib.hid hb
  have hn : n ≤ maxLen := Nat.le_trans h1 h2
  unfold maxLen at hn
  clear hr hr' hb h1 h2 h3 h4
  by_cases hlen : n = n'
  · subst hlen
    go_enter Try.func25, Try.ntmps25
    go_wp2_with fail
    go_loopw [5] (fun i wr => ∃ k : Nat, k ≤ n ∧ i = .int .i64 k ∧ l.take k = l'.take k ∧ Below w.heap.size w wr) (fun i _ => n - (intOf i).toNat)
    case atStart => exact ⟨0, by omega, rfl, by simp, Below.refl _ _⟩
    case round =>
      obtain ⟨k, hk, rfl, heq, hbr⟩ := hrel
      obtain ⟨wo, rfl⟩ : ∃ wo : World, wo = wr := ⟨_, rfl⟩
      have HE := Lib.hid heq
      have HBo := Lib.hid hbr
      have HRo := Lib.hid (HR.out.now hbr)
      have HRo' := Lib.hid (HR'.out.now hbr)
      clear heq hbr
      by_cases hlt : k < n
      · obtain ⟨ad, rfl, _, hc⟩ := HRo.out.int hlt
        obtain ⟨ad', rfl, _, hc'⟩ := HRo'.out.int hlt
        have HS := Lib.hid (take_eq_succ l l' k (by rw [HL.out]; exact hlt) (by rw [HL'.out]; exact hlt) HE.out)
        have HD : Hid (l = l' → l.getD k 0 = l'.getD k 0) := fun e => by rw [e]
        generalize l.getD k 0 = x at *
        generalize l'.getD k 0 = y at *
        by_cases hxy : x = y
        · have HS2 := Lib.hid (HS.out hxy)
          have d1 : (x == y) = true := beq_iff_eq.2 hxy
          have d2 : (x != y) = false := by simp [hxy]
          clear hxy
          go_wp2_with fail
          refine wp_region_held_drew (S := fun W => W.cell? (ad.add k) = some (.int .i64 x) ∧ W.cell? (ad'.add k) = some (.int .i64 y)) (by kernel_rfl) (⟨hc, hc'⟩) (fun hHeld => ?_)
          refine held_run 0 (some 17) (.move (.tmp 0)) ?v6_1_2 (by rfl) (by kernel_rfl) (by kernel_rfl) (by kernel_rfl) (fun _ _ _ h => h) (fun o ho w hS => ?y6_1_2) (by assumption) ?r6_1_2
          case y6_1_2 => (try dsimp only at hS); unfold execOp; simp only [ho]; go_simp; try with_reducible rfl
          try simp only [Act.put, List.setIfInBounds_toArray, List.set_cons_zero, List.set_cons_succ]
          refine held_run 1 (some 18) (.move (.tmp 5)) ?v6_1_3 (by rfl) (by kernel_rfl) (by kernel_rfl) (by kernel_rfl) (fun _ _ _ h => h) (fun o ho w hS => ?y6_1_3) (by assumption) ?r6_1_3
          case y6_1_3 => (try dsimp only at hS); unfold execOp; simp only [ho]; go_simp; try with_reducible rfl
          try simp only [Act.put, List.setIfInBounds_toArray, List.set_cons_zero, List.set_cons_succ]
          refine held_run 2 (some 19) (.indexAddr 30 (.tmp 17) (.tmp 18)) ?v6_1_4 (by rfl) (by kernel_rfl) (by kernel_rfl) (by kernel_rfl) (fun _ _ _ h => h) (fun o ho w hS => ?y6_1_4) (by assumption) ?r6_1_4
          case y6_1_4 => (try dsimp only at hS); unfold execOp; simp only [ho]; go_simp; try with_reducible rfl
          try simp only [Act.put, List.setIfInBounds_toArray, List.set_cons_zero, List.set_cons_succ]
          refine held_run 3 (some 20) (.load 3 (.tmp 19)) ?v6_1_5 (by rfl) (by kernel_rfl) (by kernel_rfl) (by kernel_rfl) (fun _ _ _ h => h) (fun o ho w hS => ?y6_1_5) (by assumption) ?r6_1_5
          case y6_1_5 => (try dsimp only at hS); unfold execOp; simp only [ho]; go_simp; try with_reducible rfl
          try simp only [Act.put, List.setIfInBounds_toArray, List.set_cons_zero, List.set_cons_succ]
          refine held_run 4 (some 21) (.move (.tmp 1)) ?v6_1_6 (by rfl) (by kernel_rfl) (by kernel_rfl) (by kernel_rfl) (fun _ _ _ h => h) (fun o ho w hS => ?y6_1_6) (by assumption) ?r6_1_6
          case y6_1_6 => (try dsimp only at hS); unfold execOp; simp only [ho]; go_simp; try with_reducible rfl
          try simp only [Act.put, List.setIfInBounds_toArray, List.set_cons_zero, List.set_cons_succ]
          refine held_run 5 (some 22) (.move (.tmp 5)) ?v6_1_7 (by rfl) (by kernel_rfl) (by kernel_rfl) (by kernel_rfl) (fun _ _ _ h => h) (fun o ho w hS => ?y6_1_7) (by assumption) ?r6_1_7
          case y6_1_7 => (try dsimp only at hS); unfold execOp; simp only [ho]; go_simp; try with_reducible rfl
          try simp only [Act.put, List.setIfInBounds_toArray, List.set_cons_zero, List.set_cons_succ]
          refine held_run 6 (some 23) (.indexAddr 30 (.tmp 21) (.tmp 22)) ?v6_1_8 (by rfl) (by kernel_rfl) (by kernel_rfl) (by kernel_rfl) (fun _ _ _ h => h) (fun o ho w hS => ?y6_1_8) (by assumption) ?r6_1_8
          case y6_1_8 => (try dsimp only at hS); unfold execOp; simp only [ho]; go_simp; try with_reducible rfl
          try simp only [Act.put, List.setIfInBounds_toArray, List.set_cons_zero, List.set_cons_succ]
          refine held_run 7 (some 24) (.load 3 (.tmp 23)) ?v6_1_9 (by rfl) (by kernel_rfl) (by kernel_rfl) (by kernel_rfl) (fun _ _ _ h => h) (fun o ho w hS => ?y6_1_9) (by assumption) ?r6_1_9
          case y6_1_9 => (try dsimp only at hS); unfold execOp; simp only [ho]; go_simp; try with_reducible rfl
          try simp only [Act.put, List.setIfInBounds_toArray, List.set_cons_zero, List.set_cons_succ]
          refine held_run 8 (some 25) (.binOp .neq 3 (.tmp 20) (.tmp 24) 3) ?v6_1_10 (by rfl) (by kernel_rfl) (by kernel_rfl) (by kernel_rfl) (fun _ _ _ h => h) (fun o ho w hS => ?y6_1_10) (by assumption) ?r6_1_10
          case y6_1_10 => (try dsimp only at hS); unfold execOp; simp only [ho]; go_simp; try with_reducible rfl
          try simp only [Act.put, List.setIfInBounds_toArray, List.set_cons_zero, List.set_cons_succ]
          refine wpAnyH_done (by kernel_rfl) ?_ _
          go_wp2_with fail
          go_roundw
          case rel => exact ⟨k + 1, by omega, by go_num, HS2.out, HBo.out.drew⟩
          case measure => simp [intOf]; omega
        · have HZ : Hid (b = false) := hide (by rw [← HB.out]; exact decide_eq_false (fun e => hxy (HD.out e)))
          have d1 : (x == y) = false := beq_eq_false_iff_ne.2 hxy
          have d2 : (x != y) = true := by simp [hxy]
          clear hxy
          go_wp2_with fail
          refine wp_region_held_drew (S := fun W => W.cell? (ad.add k) = some (.int .i64 x) ∧ W.cell? (ad'.add k) = some (.int .i64 y)) (by kernel_rfl) (⟨hc, hc'⟩) (fun hHeld => ?_)
          refine held_run 0 (some 17) (.move (.tmp 0)) ?v6_11_12 (by rfl) (by kernel_rfl) (by kernel_rfl) (by kernel_rfl) (fun _ _ _ h => h) (fun o ho w hS => ?y6_11_12) (by assumption) ?r6_11_12
          case y6_11_12 => (try dsimp only at hS); unfold execOp; simp only [ho]; go_simp; try with_reducible rfl
          try simp only [Act.put, List.setIfInBounds_toArray, List.set_cons_zero, List.set_cons_succ]
          refine held_run 1 (some 18) (.move (.tmp 5)) ?v6_11_13 (by rfl) (by kernel_rfl) (by kernel_rfl) (by kernel_rfl) (fun _ _ _ h => h) (fun o ho w hS => ?y6_11_13) (by assumption) ?r6_11_13
          case y6_11_13 => (try dsimp only at hS); unfold execOp; simp only [ho]; go_simp; try with_reducible rfl
          try simp only [Act.put, List.setIfInBounds_toArray, List.set_cons_zero, List.set_cons_succ]
          refine held_run 2 (some 19) (.indexAddr 30 (.tmp 17) (.tmp 18)) ?v6_11_14 (by rfl) (by kernel_rfl) (by kernel_rfl) (by kernel_rfl) (fun _ _ _ h => h) (fun o ho w hS => ?y6_11_14) (by assumption) ?r6_11_14
          case y6_11_14 => (try dsimp only at hS); unfold execOp; simp only [ho]; go_simp; try with_reducible rfl
          try simp only [Act.put, List.setIfInBounds_toArray, List.set_cons_zero, List.set_cons_succ]
          refine held_run 3 (some 20) (.load 3 (.tmp 19)) ?v6_11_15 (by rfl) (by kernel_rfl) (by kernel_rfl) (by kernel_rfl) (fun _ _ _ h => h) (fun o ho w hS => ?y6_11_15) (by assumption) ?r6_11_15
          case y6_11_15 => (try dsimp only at hS); unfold execOp; simp only [ho]; go_simp; try with_reducible rfl
          try simp only [Act.put, List.setIfInBounds_toArray, List.set_cons_zero, List.set_cons_succ]
          refine held_run 4 (some 21) (.move (.tmp 1)) ?v6_11_16 (by rfl) (by kernel_rfl) (by kernel_rfl) (by kernel_rfl) (fun _ _ _ h => h) (fun o ho w hS => ?y6_11_16) (by assumption) ?r6_11_16
          case y6_11_16 => (try dsimp only at hS); unfold execOp; simp only [ho]; go_simp; try with_reducible rfl
          try simp only [Act.put, List.setIfInBounds_toArray, List.set_cons_zero, List.set_cons_succ]
          refine held_run 5 (some 22) (.move (.tmp 5)) ?v6_11_17 (by rfl) (by kernel_rfl) (by kernel_rfl) (by kernel_rfl) (fun _ _ _ h => h) (fun o ho w hS => ?y6_11_17) (by assumption) ?r6_11_17
          case y6_11_17 => (try dsimp only at hS); unfold execOp; simp only [ho]; go_simp; try with_reducible rfl
          try simp only [Act.put, List.setIfInBounds_toArray, List.set_cons_zero, List.set_cons_succ]
          refine held_run 6 (some 23) (.indexAddr 30 (.tmp 21) (.tmp 22)) ?v6_11_18 (by rfl) (by kernel_rfl) (by kernel_rfl) (by kernel_rfl) (fun _ _ _ h => h) (fun o ho w hS => ?y6_11_18) (by assumption) ?r6_11_18
          case y6_11_18 => (try dsimp only at hS); unfold execOp; simp only [ho]; go_simp; try with_reducible rfl
          try simp only [Act.put, List.setIfInBounds_toArray, List.set_cons_zero, List.set_cons_succ]
          refine held_run 7 (some 24) (.load 3 (.tmp 23)) ?v6_11_19 (by rfl) (by kernel_rfl) (by kernel_rfl) (by kernel_rfl) (fun _ _ _ h => h) (fun o ho w hS => ?y6_11_19) (by assumption) ?r6_11_19
          case y6_11_19 => (try dsimp only at hS); unfold execOp; simp only [ho]; go_simp; try with_reducible rfl
          try simp only [Act.put, List.setIfInBounds_toArray, List.set_cons_zero, List.set_cons_succ]
          refine held_run 8 (some 25) (.binOp .neq 3 (.tmp 20) (.tmp 24) 3) ?v6_11_20 (by rfl) (by kernel_rfl) (by kernel_rfl) (by kernel_rfl) (fun _ _ _ h => h) (fun o ho w hS => ?y6_11_20) (by assumption) ?r6_11_20
          case y6_11_20 => (try dsimp only at hS); unfold execOp; simp only [ho]; go_simp; try with_reducible rfl
          try simp only [Act.put, List.setIfInBounds_toArray, List.set_cons_zero, List.set_cons_succ]
          refine wpAnyH_done (by kernel_rfl) ?_ _
          go_wp2_with fail
          go_ret
          exact ⟨ret_bg HZ.out.symm, HBo.out.drew⟩
      · obtain rfl : k = n := by omega
        have HZ : Hid (b = true) := by
          have h := HE.out
          rw [List.take_of_length_le (by rw [HL.out]; exact Nat.le_refl _), List.take_of_length_le (by rw [HL'.out]; exact Nat.le_refl _)] at h
          exact hide (by rw [← HB.out]; exact decide_eq_true h)
        go_wp2_with fail
        go_ret
        exact ⟨ret_bg HZ.out.symm, HBo.out⟩
  · have HZ : Hid (b = false) := hide (by rw [← HB.out]; exact decide_eq_false (fun e => hlen (by rw [← HL.out, ← HL'.out, e])))
    have dn : ((n : Int) == (n' : Int)) = false := beq_eq_false_iff_ne.2 (by omega)
    have dn1 : (n : Int) ≠ (n' : Int) := by omega
    go_enter Try.func25, Try.ntmps25
    go_wp2_with fail
    go_ret
    exact ⟨ret_bg HZ.out.symm, Below.refl _ _⟩


def sNd : List Nd := [⟨1, 1000⟩, ⟨2, 1500⟩, ⟨3, 2000⟩]
def sLf : List Lf := [⟨1, 1, 1, 3, 2000, 5000, 4, 20⟩]
def sRn : List Rn := [⟨11, 1, 3, 2, 2, 1, 900⟩, ⟨12, 1, 2, 1, 1, 2, 1200⟩]
set_option maxRecDepth 100000 in
set_option maxHeartbeats 4000000 in
theorem small_any (w : World) : Calls Try.prog 31 #[] w fun e w' => ∃ vn vl vr vb, e = .returned (.agg #[vn, vl, vr, vb]) ∧ StrV Nd.cells 2 w' w'.heap.size vn sNd ∧ StrV Lf.cells 8 w' w'.heap.size vl sLf ∧ StrV Rn.cells 7 w' w'.heap.size vr sRn ∧ RowV w' w'.heap.size vb [1] ∧ Below w.heap.size w w' := by
  go_enter Try.func31, Try.ntmps31
  go_wp2_with
    (refine wpList_store_blk rfl 32 (.tmp 0) (.tmp 11) rfl w.heap.size _ rfl rfl 32 #[.slice none 0 0, .slice none 0 0, .slice none 0 0, .slice none 0 0] (by exact ((((Blk.new w 32 #[.slice none 0 0, .slice none 0 0, .slice none 0 0, .slice none 0 0]).alloc _).alloc _).alloc _).alloc _) (by kernel_rfl) rfl (by simp [Value.oneCell']) ?_
     intro w2 hx2 hon2
     have HX2 := Lib.hid hx2
     have HO2 := Lib.hid hon2
     clear hx2 hon2)
  refine bodyPost_ret (results_cell_row rfl _ _ w.heap.size 32 _ (0, 0) _ rfl HX2.out Try.underlying32 rfl (by kernel_rfl)) rfl ?_
  refine ⟨_, _, _, _, rfl, ?_, ?_, ?_, ?_, ?_⟩
  · exact strV_only HO2.out (by simp) ((((lit_str Nd.cells 2 _ _ _ sNd 3 _ rfl rfl rfl (by decide) (by simp)).alloc' _).alloc' _).alloc' _)
  · exact strV_only HO2.out (by simp; try omega) (((lit_str Lf.cells 8 _ _ _ sLf 1 _ rfl rfl rfl (by decide) (by simp)).alloc' _).alloc' _)
  · exact strV_only HO2.out (by simp; try omega) ((lit_str Rn.cells 7 _ _ _ sRn 2 _ rfl rfl rfl (by decide) (by simp)).alloc' _)
  · exact rowV_only HO2.out (by simp; try omega) (lit_row _ _ _ [1] 1 _ rfl rfl (by decide) (by simp))
  · refine HO2.out.below (below_alloc' (below_alloc' (below_alloc' (below_alloc' (below_new w _) ?_ _) ?_ _) ?_ _) ?_ _) (Nat.le_refl _) <;> (simp; try omega)

deriving instance DecidableEq for Gr
abbrev aG0 : List Gr := [⟨4, 1, 5000, 0, 0, 0, 0, false⟩, ⟨5, 2, 5000, 0, 0, 0, 0, false⟩]
abbrev aG1 : List Gr := [⟨4, 1, 1000, 1, 3, 0, 767, false⟩, ⟨5, 2, 5000, 0, 0, 0, 0, false⟩]
abbrev aG2 : List Gr := [⟨4, 1, 1000, 1, 3, 0, 767, false⟩, ⟨5, 2, 2000, 2, 0, 11, 1600, false⟩]
abbrev aG3 : List Gr := [⟨4, 3, 1000, 0, 0, 0, 767, false⟩, ⟨5, 2, 2000, 0, 0, 0, 1600, false⟩]
theorem s_way13 : wayO sNd sLf sRn 1 3 = some 2000 := by decide +kernel
theorem s_way14 : wayO sNd sLf sRn 1 4 = none := by decide +kernel
theorem s_send : sendG (fun u => wayO sNd sLf sRn u 3) aG0 4 3 100 = (aG1, 0) := by decide +kernel
theorem s_groom : groomG sRn aG1 5 11 600 1000 = (aG2, 0) := by decide +kernel
theorem s_tick : tickG sRn 1600 aG2 = aG3 := by decide +kernel
theorem s_done : doneG 1600 aG2 = [11] := by decide +kernel
theorem s_conflict : groomG sRn aG0 4 11 600 1000 = ([], 15) := by decide +kernel
theorem s_state : sendG (fun u => wayO sNd sLf sRn u 1) aG1 4 1 100 = ([], 10) := by decide +kernel
theorem s_right : rightG aG2 = 0 := by decide +kernel
theorem s_wy : WyOK sNd sLf sRn := by
  refine ⟨by decide, by decide, by decide, by decide, fun i h => ?_⟩
  have := hasN_iff.1 h
  simp [sNd] at this
  omega
theorem aG_in : (∀ x ∈ aG0, inG x = true) ∧ (∀ x ∈ aG1, inG x = true) ∧ ∀ x ∈ aG2, inG x = true := by decide +kernel
end Go.Proofs.Ytegijfmdjaehjaa
