/-
  Texts of chapter 3 and of its reference, walked.
-/
import Derived.Test.YtcaeadcpddhdkaaCodecP
import Derived.Lib.AppendStr
namespace Go.Proofs.Ytcaeadcpddhdkaa
open Go.RowKit

theorem strCells_B8 (s : ByteArray) : Lib.strCells s = s.data.toList.map B8 := rfl

set_option maxHeartbeats 400000 in
theorem ptext_any (A : Option Addr) (n c B : Nat) (b : List UInt8) (s : ByteArray) (w : World) (hr : Bytes w B A n b) (hn : n ≤ 100000) (hs : s.size ≤ 100000) (hB : B ≤ w.heap.size) :
    Calls Try.prog 23 #[.slice A n c, .string s] w fun e w' => ∃ v, e = .returned v ∧ OwnB w' w.heap.size v (b ++ textP s.data.toList) ∧ Below w.heap.size w w' := by
  have HR := Lib.hid hr
  have HL := Lib.hid hr.blen
  obtain ⟨i0, hi0, hz0, hz1, hz2⟩ := info_parts (show (Try.prog.info? 5).map (fun i => (i.zero, i.size, i.bytes)) = some (some (.int .u8 0), 1, 1) by kernel_rfl)
  have HI := Lib.hid (And.intro hi0 (And.intro hz0 (And.intro hz1 hz2)))
  have hpl := putN_len s.size
  have HSz : Hid (s.data.toList.length = s.size) := hide (show s.data.toList.length = s.data.size by simp)
  clear hr hi0 hz0 hz1 hz2
  go_enter Try.func23, Try.ntmps23
  go_wp2_with fail
  with_reducible refine (Put_any _ _ _ _ _ (s.size : Int) s.size _ HR.out (by omega) hB (by omega) (by simp)).mono ?_
  rintro e w2 ⟨v, rfl, hown, hb2⟩
  have HO := Lib.hid hown
  have HB2 := Lib.hid hb2
  have hs2 := hb2.size
  clear hown hb2
  go_wp2_with
    (at_builtin
     refine Lib.wpList_append_own_string _ rfl (.tmp 8) (.tmp 9) 22 9 rfl w.heap.size 5 i0 Try.underlying22 Try.underlying9 HI.out.1 HI.out.2.1 HI.out.2.2.1 HI.out.2.2.2 v (b ++ putN s.size).length ((b ++ putN s.size).map B8) rfl HO.out s rfl (by rw [List.length_append, HL.out]; simp only [maxLen]; omega) (by rw [List.length_append, HL.out]; omega) hs2 ?_
     intro v4 w4 hown4 hg4 _
     have HO4 : Hid (OwnB w4 w.heap.size v4 (b ++ textP s.data.toList)) := by
       refine OwnB.mk' hown4 ?_ ?_
       · rw [textP, HSz.out]
         simp only [List.length_append, HSz.out]
         omega
       · rw [strCells_B8, app_map, textP, HSz.out, List.append_assoc]
     have HB4 : Hid (Below w.heap.size w w4) := HB2.out.trans (below_of_own HO.out hg4 hs2)
     clear hown4 hg4)
  go_ret
  exact ⟨_, rfl, HO4.out, HB4.out⟩

set_option maxHeartbeats 400000 in
theorem rptext_any (A : Option Addr) (n c B : Nat) (b : List UInt8) (s : ByteArray) (w : World) (hr : Bytes w B A n b) (hn : n ≤ 100000) (hs : s.size ≤ 100000) (hB : B ≤ w.heap.size) :
    Calls Try.prog 25 #[.slice A n c, .string s] w fun e w' => ∃ v, e = .returned v ∧ OwnB w' w.heap.size v (b ++ textP s.data.toList) ∧ Below w.heap.size w w' := by
  have HR := Lib.hid hr
  have HL := Lib.hid hr.blen
  obtain ⟨i0, hi0, hz0, hz1, hz2⟩ := info_parts (show (Try.prog.info? 5).map (fun i => (i.zero, i.size, i.bytes)) = some (some (.int .u8 0), 1, 1) by kernel_rfl)
  have HI := Lib.hid (And.intro hi0 (And.intro hz0 (And.intro hz1 hz2)))
  have hpl := putN_len s.size
  have HSz : Hid (s.data.toList.length = s.size) := hide (show s.data.toList.length = s.data.size by simp)
  clear hr hi0 hz0 hz1 hz2
  go_enter Try.func25, Try.ntmps25
  go_wp2_with fail
  with_reducible refine (rPut_any _ _ _ _ _ (s.size : Int) s.size _ HR.out (by omega) hB (by omega) (by simp)).mono ?_
  rintro e w2 ⟨v, rfl, hown, hb2⟩
  have HO := Lib.hid hown
  have HB2 := Lib.hid hb2
  have hs2 := hb2.size
  clear hown hb2
  go_wp2_with
    (at_builtin
     refine Lib.wpList_append_own_string _ rfl (.tmp 8) (.tmp 9) 22 9 rfl w.heap.size 5 i0 Try.underlying22 Try.underlying9 HI.out.1 HI.out.2.1 HI.out.2.2.1 HI.out.2.2.2 v (b ++ putN s.size).length ((b ++ putN s.size).map B8) rfl HO.out s rfl (by rw [List.length_append, HL.out]; simp only [maxLen]; omega) (by rw [List.length_append, HL.out]; omega) hs2 ?_
     intro v4 w4 hown4 hg4 _
     have HO4 : Hid (OwnB w4 w.heap.size v4 (b ++ textP s.data.toList)) := by
       refine OwnB.mk' hown4 ?_ ?_
       · rw [textP, HSz.out]
         simp only [List.length_append, HSz.out]
         omega
       · rw [strCells_B8, app_map, textP, HSz.out, List.append_assoc]
     have HB4 : Hid (Below w.heap.size w w4) := HB2.out.trans (below_of_own HO.out hg4 hs2)
     clear hown4 hg4)
  go_ret
  exact ⟨_, rfl, HO4.out, HB4.out⟩

set_option maxRecDepth 100000 in
set_option maxHeartbeats 400000 in
theorem gtext_any (A : Option Addr) (n c B : Nat) (l t : List UInt8) (k e : Nat) (w : World) (hr : Bytes w B A n l) (hn : n ≤ 10000000) (hc : n ≤ c) (hc2 : c ≤ maxLen) (hT : textG l = (t, k, e)) :
    Calls Try.prog 27 #[.slice A n c] w fun e' w' => e' = .returned (.tuple #[.string ⟨t.toArray⟩, .int .i64 (k : Int), .int .i64 (e : Int)]) ∧ w = w' := by
  have HL := Lib.hid hr.blen
  have HR := Lib.hid hr
  unfold maxLen at hc2
  unfold textG at hT
  rcases getN_cases l with ⟨N, K, hg, hk1, hk9, hkl, hN, hp1, hp2⟩ | ⟨E, hg, hE, hp1⟩
  · rw [hg] at hT
    have hkn : K ≤ n := by rw [← hr.blen]; exact hkl
    have HG := Lib.hid hg
    clear hr hg hkl hp1 hp2
    simp only [ne_eq, not_true_eq_false, if_false] at hT
    by_cases h1 : 2000 < N
    · rw [if_pos h1] at hT
      simp only [Prod.mk.injEq] at hT
      obtain ⟨rfl, rfl, rfl⟩ := hT
      go_enter Try.func27, Try.ntmps27
      go_wp2_with fail
      with_reducible refine (get_any N K 0 _ _ _ _ _ _ HR.out HG.out).mono ?_
      rintro e w' ⟨rfl, rfl⟩
      go_wp2_with fail
      go_ret3
      exact ⟨rfl, rfl⟩
    · rw [if_neg h1] at hT
      by_cases h2 : n < K + N
      · rw [if_pos (by rw [HL.out]; exact h2)] at hT
        simp only [Prod.mk.injEq] at hT
        obtain ⟨rfl, rfl, rfl⟩ := hT
        go_enter Try.func27, Try.ntmps27
        go_wp2_with fail
        with_reducible refine (get_any N K 0 _ _ _ _ _ _ HR.out HG.out).mono ?_
        rintro e w' ⟨rfl, rfl⟩
        go_wp2_with fail
        go_ret3
        exact ⟨rfl, rfl⟩
      · rw [if_neg (by rw [HL.out]; exact h2)] at hT
        have HBody := Lib.hid (HR.out.bpart (k := K) (d := N) (by omega))
        generalize (l.drop K).take N = bd at *
        simp only [Prod.mk.injEq] at hT
        obtain ⟨rfl, rfl, rfl⟩ := hT
        have HBodyC : Hid (Bytes w B (if c = K then A else A.map (·.add K)) N bd) := by
          by_cases h0 : c = K
          · have hN0 : N = 0 := by omega
            subst hN0
            have hl := HBody.out.blen
            rw [List.eq_nil_of_length_eq_zero hl]
            exact Reads.empty
          · rw [if_neg h0]
            exact HBody.out
        have q0 : ∀ W, W = w → (convert 22 9 (.slice (if c = K then A else A.map (·.add K)) N (c - K))).run Try.prog W = .ok (.string ⟨bd.toArray⟩) W := by
          rintro W rfl
          exact run_str (P := Try.prog) W Try.underlying22 Try.underlying5 Try.underlying9 HBodyC.out (c - K)
        by_cases h0 : c = K
        · have q1 := q0 w rfl
          rw [if_pos h0] at q1
          have q2 : (convert 22 9 (.slice A (K + N - K) (c - K))).run Try.prog w = .ok (.string ⟨bd.toArray⟩) w := by rw [Nat.add_sub_cancel_left]; exact q1
          have hb : (c == K) = true := beq_iff_eq.2 h0
          have h00 : c - K = 0 := by omega
          rw [h00] at q1 q2
          have H0 := Lib.hid h0
          clear h0 q0
          go_enter Try.func27, Try.ntmps27
          go_wp2_with fail
          with_reducible refine (get_any N K 0 _ _ _ _ _ _ HR.out HG.out).mono ?_
          rintro e w' ⟨rfl, rfl⟩
          go_wp2_with fail
          go_ret3
          exact ⟨by simp, rfl⟩
        · have q1 := q0 w rfl
          rw [if_neg h0] at q1
          have q2 : (convert 22 9 (.slice (A.map (·.add K)) (K + N - K) (c - K))).run Try.prog w = .ok (.string ⟨bd.toArray⟩) w := by rw [Nat.add_sub_cancel_left]; exact q1
          have hcK : K < c := by omega
          clear q0 h0
          go_enter Try.func27, Try.ntmps27
          go_wp2_with fail
          with_reducible refine (get_any N K 0 _ _ _ _ _ _ HR.out HG.out).mono ?_
          rintro e w' ⟨rfl, rfl⟩
          go_wp2_with fail
          go_ret3
          exact ⟨by simp, rfl⟩
  · rw [hg] at hT
    have HG := Lib.hid hg
    have hb : ((E : Int) != 0) = true := by rw [bne_iff_ne]; omega
    clear hr hg hp1
    rw [if_pos hE] at hT
    simp only [Prod.mk.injEq] at hT
    obtain ⟨rfl, rfl, rfl⟩ := hT
    go_enter Try.func27, Try.ntmps27
    go_wp2_with fail
    with_reducible refine (get_any 0 0 E _ _ _ _ _ _ HR.out HG.out).mono ?_
    rintro e w' ⟨rfl, rfl⟩
    go_wp2_with fail
    go_ret3
    exact ⟨rfl, rfl⟩

set_option maxRecDepth 100000 in
set_option maxHeartbeats 400000 in
theorem rgtext_any (A : Option Addr) (n c B : Nat) (l t : List UInt8) (k e : Nat) (w : World) (hr : Bytes w B A n l) (hn : n ≤ 10000000) (hc : n ≤ c) (hc2 : c ≤ maxLen) (hT : textG l = (t, k, e)) :
    Calls Try.prog 28 #[.slice A n c] w fun e' w' => e' = .returned (.tuple #[.string ⟨t.toArray⟩, .int .i64 (k : Int), .int .i64 (e : Int)]) ∧ w = w' := by
  have HL := Lib.hid hr.blen
  have HR := Lib.hid hr
  unfold maxLen at hc2
  unfold textG at hT
  rcases getN_cases l with ⟨N, K, hg, hk1, hk9, hkl, hN, hp1, hp2⟩ | ⟨E, hg, hE, hp1⟩
  · rw [hg] at hT
    have hkn : K ≤ n := by rw [← hr.blen]; exact hkl
    have HG := Lib.hid hg
    clear hr hg hkl hp1 hp2
    simp only [ne_eq, not_true_eq_false, if_false] at hT
    by_cases h1 : 2000 < N
    · rw [if_pos h1] at hT
      simp only [Prod.mk.injEq] at hT
      obtain ⟨rfl, rfl, rfl⟩ := hT
      go_enter Try.func28, Try.ntmps28
      go_wp2_with fail
      with_reducible refine (rget_any N K 0 _ _ _ _ _ _ HR.out HG.out).mono ?_
      rintro e w' ⟨rfl, rfl⟩
      go_wp2_with fail
      go_ret3
      exact ⟨rfl, rfl⟩
    · rw [if_neg h1] at hT
      by_cases h2 : n < K + N
      · rw [if_pos (by rw [HL.out]; exact h2)] at hT
        simp only [Prod.mk.injEq] at hT
        obtain ⟨rfl, rfl, rfl⟩ := hT
        go_enter Try.func28, Try.ntmps28
        go_wp2_with fail
        with_reducible refine (rget_any N K 0 _ _ _ _ _ _ HR.out HG.out).mono ?_
        rintro e w' ⟨rfl, rfl⟩
        go_wp2_with fail
        go_ret3
        exact ⟨rfl, rfl⟩
      · rw [if_neg (by rw [HL.out]; exact h2)] at hT
        have HBody := Lib.hid (HR.out.bpart (k := K) (d := N) (by omega))
        generalize (l.drop K).take N = bd at *
        simp only [Prod.mk.injEq] at hT
        obtain ⟨rfl, rfl, rfl⟩ := hT
        have HBodyC : Hid (Bytes w B (if c = K then A else A.map (·.add K)) N bd) := by
          by_cases h0 : c = K
          · have hN0 : N = 0 := by omega
            subst hN0
            have hl := HBody.out.blen
            rw [List.eq_nil_of_length_eq_zero hl]
            exact Reads.empty
          · rw [if_neg h0]
            exact HBody.out
        have q0 : ∀ W, W = w → (convert 22 9 (.slice (if c = K then A else A.map (·.add K)) N (c - K))).run Try.prog W = .ok (.string ⟨bd.toArray⟩) W := by
          rintro W rfl
          exact run_str (P := Try.prog) W Try.underlying22 Try.underlying5 Try.underlying9 HBodyC.out (c - K)
        by_cases h0 : c = K
        · have q1 := q0 w rfl
          rw [if_pos h0] at q1
          have q2 : (convert 22 9 (.slice A (K + N - K) (c - K))).run Try.prog w = .ok (.string ⟨bd.toArray⟩) w := by rw [Nat.add_sub_cancel_left]; exact q1
          have hb : (c == K) = true := beq_iff_eq.2 h0
          have h00 : c - K = 0 := by omega
          rw [h00] at q1 q2
          have H0 := Lib.hid h0
          clear h0 q0
          go_enter Try.func28, Try.ntmps28
          go_wp2_with fail
          with_reducible refine (rget_any N K 0 _ _ _ _ _ _ HR.out HG.out).mono ?_
          rintro e w' ⟨rfl, rfl⟩
          go_wp2_with fail
          go_ret3
          exact ⟨by simp, rfl⟩
        · have q1 := q0 w rfl
          rw [if_neg h0] at q1
          have q2 : (convert 22 9 (.slice (A.map (·.add K)) (K + N - K) (c - K))).run Try.prog w = .ok (.string ⟨bd.toArray⟩) w := by rw [Nat.add_sub_cancel_left]; exact q1
          have hcK : K < c := by omega
          clear q0 h0
          go_enter Try.func28, Try.ntmps28
          go_wp2_with fail
          with_reducible refine (rget_any N K 0 _ _ _ _ _ _ HR.out HG.out).mono ?_
          rintro e w' ⟨rfl, rfl⟩
          go_wp2_with fail
          go_ret3
          exact ⟨by simp, rfl⟩
  · rw [hg] at hT
    have HG := Lib.hid hg
    have hb : ((E : Int) != 0) = true := by rw [bne_iff_ne]; omega
    clear hr hg hp1
    rw [if_pos hE] at hT
    simp only [Prod.mk.injEq] at hT
    obtain ⟨rfl, rfl, rfl⟩ := hT
    go_enter Try.func28, Try.ntmps28
    go_wp2_with fail
    with_reducible refine (rget_any 0 0 E _ _ _ _ _ _ HR.out HG.out).mono ?_
    rintro e w' ⟨rfl, rfl⟩
    go_wp2_with fail
    go_ret3
    exact ⟨rfl, rfl⟩
end Go.Proofs.Ytcaeadcpddhdkaa
