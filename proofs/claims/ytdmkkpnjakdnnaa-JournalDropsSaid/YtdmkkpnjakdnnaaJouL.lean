/-
  alive of the law of chapter 29, walked.
-/
import Derived.Test.YtdmkkpnjakdnnaaJouK
namespace Go.Proofs.Ytdmkkpnjakdnnaa
open Go.RowKit

theorem slc_both (A : Addr) (n c k m : Nat) (h1 : k ≤ m) (h2 : m ≤ c) (h3 : k < c) (W : World) : (Instr.sliceAt 24 (.slice (some A) n c) (some (.int .i64 (k : Int))) (some (.int .i64 (m : Int))) none).run Try.prog W = .ok (.slice (some (A.add k)) (m - k) (c - k)) W := by
  have hs : (sizeOf (Try.prog.elem 24)).run Try.prog W = .ok 1 W := by
    obtain ⟨i, hi, _, h1, _⟩ := info_parts (show (Try.prog.info? 5).map (fun i => (i.zero, i.size, i.bytes)) = some (some (.int .u8 0), 1, 1) by kernel_rfl)
    rw [show Try.prog.elem 24 = 5 by kernel_rfl]
    simp [sizeOf, typeInfo, hi, h1]
  rw [run_sliceAt_slice (P := Try.prog) (w := W) _ _ _ _ _ (by kernel_rfl), run_slice_lh (P := Try.prog) (w := W) 24 (some A) n c (by kernel_rfl) .i64 .i64 (k : Int) (m : Int) (by omega) (by omega) (by omega), hs]
  simp [sliced, Result.andThen, show ¬ c = k by omega]
def rdX : Rd := ⟨1, 1, 7, 3, 2, 4, 300⟩
def rdB : Rd := ⟨0, -1, 0, 0, 0, 0, 0⟩
def txX : List UInt8 := [1, 1, 7, 3, 2, 4, 172, 2]
theorem rdX_ok : okB rdX = true := by decide
theorem rdB_bad : okB rdB = false := by decide
theorem txX_is : textR rdX = txX := by decide +kernel
theorem rdX_len : (frmR 0 rdX).length = 21 := by
  rw [frmR_len 0 rdX_ok, bodyR, List.length_append, be8_len, txX_is]
  rfl
theorem rdX_form : ∃ tl, frmR 0 rdX = 16 :: (txX ++ tl) := by
  refine ⟨be8 (lnkR 0 rdX) ++ be4 (sumN (bodyR 0 rdX)), ?_⟩
  have h : (bodyR 0 rdX).length = 16 := by rw [bodyR, List.length_append, be8_len, txX_is]; rfl
  unfold frmR frameN
  rw [h, putN_low 16 (by omega)]
  show [UInt8.ofNat 16] ++ bodyR 0 rdX ++ _ = _
  unfold bodyR
  rw [txX_is]
  simp
theorem rdX_scan : scanR 0 (frmR 0 rdX) = ([rdX], 21, lnkR 0 rdX) := by
  have h := scanR_back [rdX] 0 (by intro r hr; simp only [List.mem_cons, List.not_mem_nil, or_false] at hr; rw [hr]; exact rdX_ok)
  simp only [wrR, List.append_nil, lkR] at h
  rw [h, rdX_len]
theorem rdX_torn : scanR 0 ((frmR 0 rdX).take 20) = ([], 0, 0) := scanR_none (nextR_torn 0 rdX_ok 20 (by rw [rdX_len]; omega))

set_option maxRecDepth 100000 in
set_option maxHeartbeats 4000000 in
theorem alive_any (w : World) : Calls Try.prog 10 #[] w fun e w' => e = .returned (.bool true) ∧ Below w.heap.size w w' := by
  obtain ⟨bl, hbl⟩ : ∃ x, frmR 0 rdX = x := ⟨_, rfl⟩
  obtain ⟨T, hT⟩ : ∃ x, lnkR 0 rdX = x := ⟨_, rfl⟩
  have hlen := rdX_len
  have hscan := rdX_scan
  have htorn := rdX_torn
  obtain ⟨tl, hform⟩ := rdX_form
  have hTt : tagN 0 txX = T := by rw [← hT, ← txX_is]; rfl
  rw [hbl] at hlen hscan htorn hform
  rw [hT] at hscan
  have HWr : Hid (∀ (W : World) (v : Value), StrV Rd.cells 7 W W.heap.size v [rdX] → Calls Try.prog 11 #[v] W fun e w' => ∃ A c, e = .returned (.tuple #[.slice (some A) 21 c, .int .i64 0]) ∧ 21 ≤ c ∧ c ≤ maxLen ∧ Bytes w' w'.heap.size (some A) 21 bl ∧ Below W.heap.size W w') := fun W v hv => by
    refine (Write_any v [rdX] W hv (by simp)).mono ?_
    rintro e w' ⟨x, rfl, ho, hb⟩
    have hw : writeG [rdX] = (bl, 0) := by
      rw [writeG_ok (by simp [rdX_ok]), ← hbl]
      simp [wrR]
    rw [hw] at ho ⊢
    obtain ⟨A, n, c, rfl, hN, h1, h2, hr⟩ := ho.nam
    obtain rfl : n = 21 := by rw [← hN.out, hlen]
    obtain ⟨ad, rfl, _⟩ := hr.byte (show 0 < 21 by omega)
    exact ⟨ad, c, rfl, h1, h2, hr, hb⟩
  have HRd : Hid (∀ (W : World) (A : Option Addr) (c : Nat), Bytes W W.heap.size A 21 bl → 21 ≤ c → c ≤ maxLen → Calls Try.prog 15 #[.slice A 21 c] W fun e w' => ∃ v, e = .returned (.tuple #[v, .int .i64 21]) ∧ StrV Rd.cells 7 w' w'.heap.size v [rdX] ∧ Below W.heap.size W w') := fun W A c hr h1 h2 => by
    refine (Read_any A 21 c bl [rdX] 21 T W hr (by omega) h1 h2 hscan).mono ?_
    rintro e w' ⟨v, rfl, ho, hb⟩
    exact ⟨v, rfl, ho.strV, hb⟩
  have HRd2 : Hid (∀ (W : World) (A : Option Addr) (c : Nat), Bytes W W.heap.size A 20 (bl.take 20) → 20 ≤ c → c ≤ maxLen → Calls Try.prog 15 #[.slice A 20 c] W fun e w' => ∃ A' c', e = .returned (.tuple #[.slice A' 0 c', .int .i64 0]) ∧ Below W.heap.size W w') := fun W A c hr h1 h2 => by
    refine (Read_any A 20 c (bl.take 20) [] 0 0 W hr (by omega) h1 h2 htorn).mono ?_
    rintro e w' ⟨v, rfl, ho, hb⟩
    obtain ⟨A', c', rfl, _⟩ := own_open ho
    exact ⟨A', c', rfl, hb⟩
  have HAp : Hid (∀ (W : World) (A : Option Addr) (c : Nat), Bytes W W.heap.size A 20 (bl.take 20) → 20 ≤ c → c ≤ maxLen → Calls Try.prog 13 #[.slice A 20 c, .agg #[.int .i64 1, .int .i64 1, .int .i64 7, .int .i64 3, .int .i64 2, .int .i64 4, .int .i64 300]] W fun e w' => ∃ v, e = .returned (.tuple #[v, .int .i64 3]) ∧ Below W.heap.size W w') := fun W A c hr h1 h2 => by
    refine (Append_any A 20 c (bl.take 20) rdX W hr (by omega) h1 h2).mono ?_
    rintro e w' ⟨v, rfl, ho, hb⟩
    have hg : appG (bl.take 20) rdX = ([], 3) := by
      rw [appG_of htorn rfl, if_pos]
      rw [List.length_take, hlen]
      decide
    rw [hg]
    exact ⟨v, rfl, hb⟩
  have HAp2 : Hid (∀ (W : World) (A : Option Addr) (c : Nat), Bytes W W.heap.size A 21 bl → 21 ≤ c → c ≤ maxLen → Calls Try.prog 13 #[.slice A 21 c, .agg #[.int .i64 0, .int .i64 (-1), .int .i64 0, .int .i64 0, .int .i64 0, .int .i64 0, .int .i64 0]] W fun e w' => ∃ v, e = .returned (.tuple #[v, .int .i64 2]) ∧ Below W.heap.size W w') := fun W A c hr h1 h2 => by
    refine (Append_any A 21 c bl rdB W hr (by omega) h1 h2).mono ?_
    rintro e w' ⟨v, rfl, ho, hb⟩
    have hg : appG bl rdB = ([], 2) := by
      rw [appG_of hscan rfl, if_neg (by rw [hlen]; decide), if_pos rdB_bad]
    rw [hg]
    exact ⟨v, rfl, hb⟩
  have HWh : Hid (∀ (W : World) (A : Option Addr) (c : Nat), Bytes W W.heap.size A 21 bl → 21 ≤ c → c ≤ maxLen → Calls Try.prog 18 #[.slice A 21 c] W fun e w' => e = .returned (.bool true) ∧ Below W.heap.size W w') := fun W A c hr h1 h2 => Whole_any true A 21 c bl [rdX] 21 T W hr (by omega) h1 h2 hscan (by decide)
  have HWh0 : Hid (∀ (W : World), Calls Try.prog 18 #[.slice none 0 0] W fun e w' => e = .returned (.bool true) ∧ Below W.heap.size W w') := fun W => Whole_any true none 0 0 [] [] 0 0 W (Reads.empty) (by omega) (by omega) (by simp [maxLen]) (scanR_nil 0) (by decide)
  have HWh2 : Hid (∀ (W : World) (A : Option Addr) (c : Nat), Bytes W W.heap.size A 20 (bl.take 20) → 20 ≤ c → c ≤ maxLen → Calls Try.prog 18 #[.slice A 20 c] W fun e w' => e = .returned (.bool false) ∧ Below W.heap.size W w') := fun W A c hr h1 h2 => Whole_any false A 20 c (bl.take 20) [] 0 0 W hr (by omega) h1 h2 htorn (by decide)
  have HLa : Hid (∀ (W : World) (A : Option Addr) (c : Nat), Bytes W W.heap.size A 21 bl → 21 ≤ c → c ≤ maxLen → Calls Try.prog 20 #[.slice A 21 c] W fun e w' => e = .returned (.int .u64 (T : Int)) ∧ Below W.heap.size W w') := fun W A c hr h1 h2 => Last_any A 21 c bl [rdX] 21 T W hr (by omega) h1 h2 hscan
  have HCh : Hid (∀ (W : World) (A : Option Addr), Bytes W W.heap.size A 8 txX → Calls Try.prog 23 #[.int .u64 0, .slice A 8 8] W fun e w' => e = .returned (.int .u64 (T : Int)) ∧ W = w') := fun W A hr => by
    have h := chain_any 0 (by omega) (by omega) A 8 8 _ txX W hr (by omega) (by omega)
    rw [show (0 : Int).toNat = 0 from rfl, hTt] at h
    exact h
  have HTl : Hid ((bl.drop 1).take 8 = txX) := by show _ = _; rw [hform]; rfl
  have HB0 : Hid ((bl.getD 0 0).toNat = 16) := by show _ = _; rw [hform]; rfl
  clear hbl hT hlen hscan htorn hform hTt
  go_enter Try.func10, Try.ntmps10
  go_wp2_with (first
    | (refine wpList_store_blk rfl 30 (.tmp 1) (.tmp 13) rfl w.heap.size #[.int .i64 1, .int .i64 1, .int .i64 7, .int .i64 3, .int .i64 2, .int .i64 4, .int .i64 300] rfl rfl _ _ (Blk.new w 30 #[.int .i64 0, .int .i64 0, .int .i64 0, .int .i64 0, .int .i64 0, .int .i64 0, .int .i64 0]) (by kernel_rfl) rfl (by simp [Value.oneCell']) ?_
       intro w1 hx1 hon1
       have HX1 := Lib.hid hx1
       have HB1 := Lib.hid (hon1.below (below_new w (.cells #[.int .i64 0, .int .i64 0, .int .i64 0, .int .i64 0, .int .i64 0, .int .i64 0, .int .i64 0] 30)) (Nat.le_refl _))
       have hl1 : w.heap.size < w1.heap.size := hx1.lt
       clear hx1 hon1)
    | (refine wpList_load_g 30 (.tmp 1) rfl rfl w.heap.size rfl _ _ (HX1.out.alloc _) _ Try.underlying30 rfl (by kernel_rfl) ?_))
  have HBw2 := (Blk.new w1 5 #[.int .u8 1, .int .u8 1, .int .u8 7, .int .u8 3, .int .u8 2, .int .u8 4, .int .u8 172, .int .u8 2])
  have HLw2 := (below_new w1 (.cells #[.int .u8 1, .int .u8 1, .int .u8 7, .int .u8 3, .int .u8 2, .int .u8 4, .int .u8 172, .int .u8 2] 5))
  have hsw2 : (w1.alloc (.cells #[.int .u8 1, .int .u8 1, .int .u8 7, .int .u8 3, .int .u8 2, .int .u8 4, .int .u8 172, .int .u8 2] 5)).heap.size = w1.heap.size + 1 := by simp
  generalize w1.alloc (.cells #[.int .u8 1, .int .u8 1, .int .u8 7, .int .u8 3, .int .u8 2, .int .u8 4, .int .u8 172, .int .u8 2] 5) = w2 at HBw2 HLw2 hsw2 ⊢
  replace HBw2 := Lib.hid HBw2
  replace HLw2 := Lib.hid HLw2
  have hlw2 : w1.heap.size < w2.heap.size := by omega
  replace hsw2 := Lib.hid hsw2
  have HBw3 := (Blk.new w2 30 #[.int .i64 1, .int .i64 1, .int .i64 7, .int .i64 3, .int .i64 2, .int .i64 4, .int .i64 300])
  have HLw3 := (below_new w2 (.cells #[.int .i64 1, .int .i64 1, .int .i64 7, .int .i64 3, .int .i64 2, .int .i64 4, .int .i64 300] 30))
  have hsw3 : (w2.alloc (.cells #[.int .i64 1, .int .i64 1, .int .i64 7, .int .i64 3, .int .i64 2, .int .i64 4, .int .i64 300] 30)).heap.size = w2.heap.size + 1 := by simp
  generalize w2.alloc (.cells #[.int .i64 1, .int .i64 1, .int .i64 7, .int .i64 3, .int .i64 2, .int .i64 4, .int .i64 300] 30) = w3 at HBw3 HLw3 hsw3 ⊢
  replace HBw3 := Lib.hid HBw3
  replace HLw3 := Lib.hid HLw3
  have hlw3 : w2.heap.size < w3.heap.size := by omega
  replace hsw3 := Lib.hid hsw3
  have hsz2 : w2.heap.size = w1.heap.size + 1 := hsw2.out
  have HT3 : Hid (Bytes w3 w3.heap.size (some ⟨w1.heap.size, 0, none⟩) 8 txX) := hide (reads_blk (HBw2.out.below HLw3.out hlw2) rfl)
  have HV3 : Hid (StrV Rd.cells 7 w3 w3.heap.size (.slice (some ⟨w1.heap.size + 1, 0, none⟩) 1 1) [rdX]) := by
    have h := reads_blk (n := 1) (s := 7) HBw3.out rfl
    rw [hsz2] at h
    exact hide ⟨_, _, rfl, Nat.le_refl _, by simp [maxLen], h⟩
  have HX3 := Lib.hid ((HX1.out.below HLw2.out hl1).below HLw3.out (by omega))
  have HB3 := Lib.hid ((HB1.out.trans (HLw2.out.mono HB1.out.size)).trans (HLw3.out.mono (by omega)))
  clear HX1 HB1 HBw2 HBw3 HLw2 HLw3 hsw2 hsw3 hlw2 hlw3
  with_reducible refine (HWr.out _ _ HV3.out).mono ?_
  rintro e w4 ⟨A, c, rfl, hc1, hc2, hr4, hb4⟩
  have HC2 := Lib.hid hc2
  have HR4 := Lib.hid hr4
  have HT4 := Lib.hid (HT3.out.now hb4)
  have HX4 := Lib.hid (HX3.out.below hb4 HX3.out.lt)
  have HB4 := Lib.hid (HB3.out.trans (hb4.mono HB3.out.size))
  clear hr4 hb4 HV3 HX3 HB3 HT3 hc2
  obtain ⟨st, hst⟩ : ∃ x : ByteArray, (⟨txX.toArray⟩ : ByteArray) = x := ⟨_, rfl⟩
  obtain ⟨A1, hA1⟩ : ∃ x, A.add 1 = x := ⟨_, rfl⟩
  have hs19 : ∀ W : World, (Instr.sliceAt 24 (.slice (some A) 21 c) (some (.int .i64 1)) (some (.int .i64 9)) none).run Try.prog W = .ok (.slice (some A1) 8 (c - 1)) W := fun W => by rw [← hA1]; exact slc_both A 21 c 1 9 (by omega) (by omega) (by omega) W
  have hs20 : ∀ W : World, (Instr.sliceAt 24 (.slice (some A) 21 c) none (some (.int .i64 20)) none).run Try.prog W = .ok (.slice (some A) 20 c) W := slc_to (some A) 21 c 20 (by omega)
  have h0 : w4.drew.cell? A = some (.int .u8 16) ∧ (convert 24 9 (.slice (some A1) 8 (c - 1))).run Try.prog w4.drew = .ok (.string st) w4.drew ∧ (convert 24 9 (.slice (some ⟨w1.heap.size, 0, none⟩) 8 8)).run Try.prog w4.drew = .ok (.string st) w4.drew := by
    refine ⟨?_, ?_, ?_⟩
    · obtain ⟨ad, e, _, hc⟩ := HR4.out.byte (show 0 < 21 by omega)
      injection e with e
      subst e
      rw [HB0.out] at hc
      have hz : A.add 0 = A := by unfold Addr.add; simp
      rw [hz] at hc
      exact hc
    · have h := Reads.bpart HR4.out (k := 1) (d := 8) (by omega)
      rw [HTl.out] at h
      rw [← hst]
      exact run_str (P := Try.prog) w4.drew Try.underlying24 Try.underlying5 Try.underlying9 (show Bytes w4.drew w4.heap.size (some A1) 8 txX by rw [← hA1]; exact h) (c - 1)
    · rw [← hst]
      exact run_str (P := Try.prog) w4.drew Try.underlying24 Try.underlying5 Try.underlying9 (show Bytes w4.drew w4.heap.size _ 8 txX from HT4.out) 8
  clear hst hA1
  go_wp2_with fail
  refine wp_region_held_drew (S := fun W => W.cell? A = some (.int .u8 16) ∧ (convert 24 9 (.slice (some A1) 8 (c - 1))).run Try.prog W = .ok (.string st) W ∧ (convert 24 9 (.slice (some ⟨w1.heap.size, 0, none⟩) 8 8)).run Try.prog W = .ok (.string st) W) (by kernel_rfl) (h0) (fun hHeld => ?_)
  refine held_run 0 (some 21) (.move (.tmp 4)) ?v4_1_2 (by rfl) (by kernel_rfl) (by kernel_rfl) (by kernel_rfl) (fun _ _ _ h => h) (fun o ho w hS => ?y4_1_2) (by assumption) ?r4_1_2
  case y4_1_2 => (try dsimp only at hS); unfold execOp; simp only [ho]; go_simp; try with_reducible rfl
  try simp only [Act.put, List.setIfInBounds_toArray, List.set_cons_zero, List.set_cons_succ]
  refine held_run 1 (some 22) (.binOp .neq 25 (.tmp 21) (.const (.int .i64 0)) 25) ?v4_1_3 (by rfl) (by kernel_rfl) (by kernel_rfl) (by kernel_rfl) (fun _ _ _ h => h) (fun o ho w hS => ?y4_1_3) (by assumption) ?r4_1_3
  case y4_1_3 => (try dsimp only at hS); unfold execOp; simp only [ho]; go_simp; try with_reducible rfl
  try simp only [Act.put, List.setIfInBounds_toArray, List.set_cons_zero, List.set_cons_succ]
  refine held_run 2 (some 23) (.move (.tmp 22)) ?v4_1_4 (by rfl) (by kernel_rfl) (by kernel_rfl) (by kernel_rfl) (fun _ _ _ h => h) (fun o ho w hS => ?y4_1_4) (by assumption) ?r4_1_4
  case y4_1_4 => (try dsimp only at hS); unfold execOp; simp only [ho]; go_simp; try with_reducible rfl
  try simp only [Act.put, List.setIfInBounds_toArray, List.set_cons_zero, List.set_cons_succ]
  refine held_run 3 (some 24) (.move (.tmp 3)) ?v4_1_5 (by rfl) (by kernel_rfl) (by kernel_rfl) (by kernel_rfl) (fun _ _ _ h => h) (fun o ho w hS => ?y4_1_5) (by assumption) ?r4_1_5
  case y4_1_5 => (try dsimp only at hS); unfold execOp; simp only [ho]; go_simp; try with_reducible rfl
  try simp only [Act.put, List.setIfInBounds_toArray, List.set_cons_zero, List.set_cons_succ]
  refine held_run 4 (some 25) (.call { callee := .builtin .len, args := #[(.tmp 24)], argTypes := #[24] }) ?v4_1_6 (by rfl) (by kernel_rfl) (by kernel_rfl) (by kernel_rfl) (fun _ _ _ h => h) (fun o ho w hS => ?y4_1_6) (by assumption) ?r4_1_6
  case y4_1_6 => (try dsimp only at hS); unfold execOp; simp only [ho]; go_simp; try with_reducible rfl
  try simp only [Act.put, List.setIfInBounds_toArray, List.set_cons_zero, List.set_cons_succ]
  refine held_run 5 (some 26) (.binOp .neq 3 (.tmp 25) (.const (.int .i64 21)) 3) ?v4_1_7 (by rfl) (by kernel_rfl) (by kernel_rfl) (by kernel_rfl) (fun _ _ _ h => h) (fun o ho w hS => ?y4_1_7) (by assumption) ?r4_1_7
  case y4_1_7 => (try dsimp only at hS); unfold execOp; simp only [ho]; go_simp; try with_reducible rfl
  try simp only [Act.put, List.setIfInBounds_toArray, List.set_cons_zero, List.set_cons_succ]
  refine held_run 6 (some 27) (.pick (.tmp 23) (.const (Value.bool true)) (.tmp 26)) ?v4_1_8 (by rfl) (by kernel_rfl) (by kernel_rfl) (by kernel_rfl) (fun _ _ _ h => h) (fun o ho w hS => ?y4_1_8) (by assumption) ?r4_1_8
  case y4_1_8 => (try dsimp only at hS); unfold execOp; simp only [ho]; go_simp; try with_reducible rfl
  try simp only [Act.put, List.setIfInBounds_toArray, List.set_cons_zero, List.set_cons_succ]
  refine held_run 7 (some 28) (.move (.tmp 27)) ?v4_1_9 (by rfl) (by kernel_rfl) (by kernel_rfl) (by kernel_rfl) (fun _ _ _ h => h) (fun o ho w hS => ?y4_1_9) (by assumption) ?r4_1_9
  case y4_1_9 => (try dsimp only at hS); unfold execOp; simp only [ho]; go_simp; try with_reducible rfl
  try simp only [Act.put, List.setIfInBounds_toArray, List.set_cons_zero, List.set_cons_succ]
  refine held_run 8 (some 29) (.move (.tmp 3)) ?v4_1_10 (by rfl) (by kernel_rfl) (by kernel_rfl) (by kernel_rfl) (fun _ _ _ h => h) (fun o ho w hS => ?y4_1_10) (by assumption) ?r4_1_10
  case y4_1_10 => (try dsimp only at hS); unfold execOp; simp only [ho]; go_simp; try with_reducible rfl
  try simp only [Act.put, List.setIfInBounds_toArray, List.set_cons_zero, List.set_cons_succ]
  refine held_run 9 (some 30) (.indexAddr 24 (.tmp 29) (.const (.int .i64 0))) ?v4_1_11 (by rfl) (by kernel_rfl) (by kernel_rfl) (by kernel_rfl) (fun _ _ _ h => h) (fun o ho w hS => ?y4_1_11) (by assumption) ?r4_1_11
  case y4_1_11 => (try dsimp only at hS); unfold execOp; simp only [ho]; go_simp; try with_reducible rfl
  try simp only [Act.put, List.setIfInBounds_toArray, List.set_cons_zero, List.set_cons_succ]
  refine held_run 10 (some 31) (.load 5 (.tmp 30)) ?v4_1_12 (by rfl) (by kernel_rfl) (by kernel_rfl) (by kernel_rfl) (fun _ _ _ h => h) (fun o ho w hS => ?y4_1_12) (by assumption) ?r4_1_12
  case y4_1_12 => (try dsimp only at hS); unfold execOp; simp only [ho]; go_simp; try with_reducible rfl
  try simp only [Act.put, List.setIfInBounds_toArray, List.set_cons_zero, List.set_cons_succ]
  refine held_run 11 (some 32) (.binOp .neq 5 (.tmp 31) (.const (.int .u8 16)) 5) ?v4_1_13 (by rfl) (by kernel_rfl) (by kernel_rfl) (by kernel_rfl) (fun _ _ _ h => h) (fun o ho w hS => ?y4_1_13) (by assumption) ?r4_1_13
  case y4_1_13 => (try dsimp only at hS); unfold execOp; simp only [ho]; go_simp; try with_reducible rfl
  try simp only [Act.put, List.setIfInBounds_toArray, List.set_cons_zero, List.set_cons_succ]
  refine held_run 12 (some 33) (.pick (.tmp 28) (.const (Value.bool true)) (.tmp 32)) ?v4_1_14 (by rfl) (by kernel_rfl) (by kernel_rfl) (by kernel_rfl) (fun _ _ _ h => h) (fun o ho w hS => ?y4_1_14) (by assumption) ?r4_1_14
  case y4_1_14 => (try dsimp only at hS); unfold execOp; simp only [ho]; go_simp; try with_reducible rfl
  try simp only [Act.put, List.setIfInBounds_toArray, List.set_cons_zero, List.set_cons_succ]
  refine held_run 13 (some 34) (.move (.tmp 33)) ?v4_1_15 (by rfl) (by kernel_rfl) (by kernel_rfl) (by kernel_rfl) (fun _ _ _ h => h) (fun o ho w hS => ?y4_1_15) (by assumption) ?r4_1_15
  case y4_1_15 => (try dsimp only at hS); unfold execOp; simp only [ho]; go_simp; try with_reducible rfl
  try simp only [Act.put, List.setIfInBounds_toArray, List.set_cons_zero, List.set_cons_succ]
  refine held_run 14 (some 35) (.move (.tmp 3)) ?v4_1_16 (by rfl) (by kernel_rfl) (by kernel_rfl) (by kernel_rfl) (fun _ _ _ h => h) (fun o ho w hS => ?y4_1_16) (by assumption) ?r4_1_16
  case y4_1_16 => (try dsimp only at hS); unfold execOp; simp only [ho]; go_simp; try with_reducible rfl
  try simp only [Act.put, List.setIfInBounds_toArray, List.set_cons_zero, List.set_cons_succ]
  refine held_run 15 (some 36) (.slice 24 (.tmp 35) (some (.const (.int .i64 1))) (some (.const (.int .i64 9))) none) ?v4_1_17 (by rfl) (by kernel_rfl) (by kernel_rfl) (by kernel_rfl) (fun _ _ _ h => h) (fun o ho w hS => ?y4_1_17) (by assumption) ?r4_1_17
  case y4_1_17 => (try dsimp only at hS); unfold execOp; simp only [ho]; go_simp; try with_reducible rfl
  try simp only [Act.put, List.setIfInBounds_toArray, List.set_cons_zero, List.set_cons_succ]
  refine held_run 16 (some 37) (.convert 24 9 (.tmp 36)) ?v4_1_18 (by rfl) (by kernel_rfl) (by kernel_rfl) (by kernel_rfl) (fun _ _ _ h => h) (fun o ho w hS => ?y4_1_18) (by assumption) ?r4_1_18
  case y4_1_18 => (try dsimp only at hS); unfold execOp; simp only [ho]; go_simp; try with_reducible rfl
  try simp only [Act.put, List.setIfInBounds_toArray, List.set_cons_zero, List.set_cons_succ]
  refine held_run 17 (some 38) (.move (.tmp 2)) ?v4_1_19 (by rfl) (by kernel_rfl) (by kernel_rfl) (by kernel_rfl) (fun _ _ _ h => h) (fun o ho w hS => ?y4_1_19) (by assumption) ?r4_1_19
  case y4_1_19 => (try dsimp only at hS); unfold execOp; simp only [ho]; go_simp; try with_reducible rfl
  try simp only [Act.put, List.setIfInBounds_toArray, List.set_cons_zero, List.set_cons_succ]
  refine held_run 18 (some 39) (.convert 24 9 (.tmp 38)) ?v4_1_20 (by rfl) (by kernel_rfl) (by kernel_rfl) (by kernel_rfl) (fun _ _ _ h => h) (fun o ho w hS => ?y4_1_20) (by assumption) ?r4_1_20
  case y4_1_20 => (try dsimp only at hS); unfold execOp; simp only [ho]; go_simp; try with_reducible rfl
  try simp only [Act.put, List.setIfInBounds_toArray, List.set_cons_zero, List.set_cons_succ]
  refine held_run 19 (some 40) (.binOp .neq 9 (.tmp 37) (.tmp 39) 9) ?v4_1_21 (by rfl) (by kernel_rfl) (by kernel_rfl) (by kernel_rfl) (fun _ _ _ h => h) (fun o ho w hS => ?y4_1_21) (by assumption) ?r4_1_21
  case y4_1_21 => (try dsimp only at hS); unfold execOp; simp only [ho]; go_simp; try with_reducible rfl
  try simp only [Act.put, List.setIfInBounds_toArray, List.set_cons_zero, List.set_cons_succ]
  refine held_run 20 (some 41) (.pick (.tmp 34) (.const (Value.bool true)) (.tmp 40)) ?v4_1_22 (by rfl) (by kernel_rfl) (by kernel_rfl) (by kernel_rfl) (fun _ _ _ h => h) (fun o ho w hS => ?y4_1_22) (by assumption) ?r4_1_22
  case y4_1_22 => (try dsimp only at hS); unfold execOp; simp only [ho]; go_simp; try with_reducible rfl
  try simp only [Act.put, List.setIfInBounds_toArray, List.set_cons_zero, List.set_cons_succ]
  refine wpAnyH_done (by kernel_rfl) ?_ _
  clear h0 hs19
  have HR4d : Hid (Bytes w4.drew w4.drew.heap.size (some A) 21 bl) := hide HR4.out
  have HT4d : Hid (Bytes w4.drew w4.drew.heap.size (some ⟨w1.heap.size, 0, none⟩) 8 txX) := hide HT4.out
  have HX4d : Hid (Blk w4.drew w.heap.size 30 #[.int .i64 1, .int .i64 1, .int .i64 7, .int .i64 3, .int .i64 2, .int .i64 4, .int .i64 300]) := hide HX4.out
  have HB4d : Hid (Below w.heap.size w w4.drew) := hide HB4.out.drew
  clear HR4 HT4 HX4 HB4
  go_wp2_with fail
  with_reducible refine (HRd.out _ _ _ HR4d.out hc1 HC2.out).mono ?_
  rintro e w5 ⟨v5, rfl, hv5, hb5⟩
  have HV5 := Lib.hid hv5
  have HR5 := Lib.hid (HR4d.out.now hb5)
  have HT5 := Lib.hid (HT4d.out.now hb5)
  have HX5 := Lib.hid (HX4d.out.below hb5 HX4d.out.lt)
  have HB5 := Lib.hid (HB4d.out.trans (hb5.mono HB4d.out.size))
  clear hv5 hb5
  go_wp2_with fail
  with_reducible refine (HRd2.out _ _ _ (Reads.bfront HR5.out (by omega)) (by omega) HC2.out).mono ?_
  rintro e w6 ⟨A6, c6, rfl, hb6⟩
  have HV6 := Lib.hid (HV5.out.now hb6)
  have HR6 := Lib.hid (HR5.out.now hb6)
  have HT6 := Lib.hid (HT5.out.now hb6)
  have HX6 := Lib.hid (HX5.out.below hb6 HX5.out.lt)
  have HB6 := Lib.hid (HB5.out.trans (hb6.mono HB5.out.size))
  clear hb6
  go_wp2_with fail
  have HR6d : Hid (Bytes w6.drew w6.drew.heap.size (some A) 21 bl) := hide HR6.out
  have HX6d : Hid (Blk w6.drew w.heap.size 30 #[.int .i64 1, .int .i64 1, .int .i64 7, .int .i64 3, .int .i64 2, .int .i64 4, .int .i64 300]) := hide HX6.out
  refine wp_region_held_drew (S := fun W => Blk W w.heap.size 30 #[.int .i64 1, .int .i64 1, .int .i64 7, .int .i64 3, .int .i64 2, .int .i64 4, .int .i64 300]) (by kernel_rfl) (HX6d.out) (fun hHeld => ?_)
  refine held_run 0 (some 54) (.move (.tmp 3)) ?v8_23_24 (by rfl) (by kernel_rfl) (by kernel_rfl) (by kernel_rfl) (fun _ _ _ h => h) (fun o ho w hS => ?y8_23_24) (by assumption) ?r8_23_24
  case y8_23_24 => (try dsimp only at hS); unfold execOp; simp only [ho]; go_simp; try with_reducible rfl
  try simp only [Act.put, List.setIfInBounds_toArray, List.set_cons_zero, List.set_cons_succ]
  refine held_run 1 (some 55) (.slice 24 (.tmp 54) none (some (.const (.int .i64 20))) none) ?v8_23_25 (by rfl) (by kernel_rfl) (by kernel_rfl) (by kernel_rfl) (fun _ _ _ h => h) (fun o ho w hS => ?y8_23_25) (by assumption) ?r8_23_25
  case y8_23_25 => (try dsimp only at hS); unfold execOp; simp only [ho]; go_simp; try with_reducible rfl
  try simp only [Act.put, List.setIfInBounds_toArray, List.set_cons_zero, List.set_cons_succ]
  refine held_load 2 (some 56) 30 (.tmp 1) (by rfl) (by kernel_rfl) (by kernel_rfl) (by kernel_rfl) (w.heap.size) 30 #[.int .i64 1, .int .i64 1, .int .i64 7, .int .i64 3, .int .i64 2, .int .i64 4, .int .i64 300] (fun _ _ _ h => h) (by rfl) (fun _ h => h) _ Try.underlying30 rfl (by kernel_rfl) (by assumption) ?_
  try simp only [Act.put, List.setIfInBounds_toArray, List.set_cons_zero, List.set_cons_succ]
  refine held_call 3 (some 57) 13 [(.tmp 55), (.tmp 56)] #[24, 30] #[.slice (some A) 20 c, .agg #[.int .i64 1, .int .i64 1, .int .i64 7, .int .i64 3, .int .i64 2, .int .i64 4, .int .i64 300]] (by rfl) (by rfl) (by kernel_rfl) Try.func13 (by rfl) (by rfl) ?_
  refine (HAp.out _ _ _ (Reads.bfront HR6d.out (by omega)) (by omega) HC2.out).mono ?_
  rintro e w7 ⟨v7, rfl, hb7'⟩
  have hb7 : Below w6.heap.size w6 w7 := (Below.refl w6.heap.size w6).drew.trans hb7'
  have HV7 := Lib.hid (HV6.out.now hb7)
  have HR7 := Lib.hid (HR6.out.now hb7)
  have HT7 := Lib.hid (HT6.out.now hb7)
  have HX7 := Lib.hid (HX6.out.below hb7 HX6.out.lt)
  have HB7 := Lib.hid (HB6.out.trans (hb7.mono HB6.out.size))
  clear hb7 hb7'
  refine ⟨_, rfl, HX7.out, ?_⟩
  try simp only [Act.put, List.setIfInBounds_toArray, List.set_cons_zero, List.set_cons_succ]
  refine held_run 4 (some 53) (.move (.tmp 57)) ?v8_23_28 (by rfl) (by kernel_rfl) (by kernel_rfl) (by kernel_rfl) (fun _ _ _ h => h) (fun o ho w hS => ?y8_23_28) (by assumption) ?r8_23_28
  case y8_23_28 => (try dsimp only at hS); unfold execOp; simp only [ho]; go_simp; try with_reducible rfl
  try simp only [Act.put, List.setIfInBounds_toArray, List.set_cons_zero, List.set_cons_succ]
  refine held_run 5 (some 58) (.extract (.tmp 53) 0) ?v8_23_29 (by rfl) (by kernel_rfl) (by kernel_rfl) (by kernel_rfl) (fun _ _ _ h => h) (fun o ho w hS => ?y8_23_29) (by assumption) ?r8_23_29
  case y8_23_29 => (try dsimp only at hS); unfold execOp; simp only [ho]; go_simp; try with_reducible rfl
  try simp only [Act.put, List.setIfInBounds_toArray, List.set_cons_zero, List.set_cons_succ]
  refine held_run 6 (some 59) (.extract (.tmp 53) 1) ?v8_23_30 (by rfl) (by kernel_rfl) (by kernel_rfl) (by kernel_rfl) (fun _ _ _ h => h) (fun o ho w hS => ?y8_23_30) (by assumption) ?r8_23_30
  case y8_23_30 => (try dsimp only at hS); unfold execOp; simp only [ho]; go_simp; try with_reducible rfl
  try simp only [Act.put, List.setIfInBounds_toArray, List.set_cons_zero, List.set_cons_succ]
  refine held_run 7 (some 9) (.assign (.tmp 58)) ?v8_23_31 (by rfl) (by kernel_rfl) (by kernel_rfl) (by kernel_rfl) (fun _ _ _ h => h) (fun o ho w hS => ?y8_23_31) (by assumption) ?r8_23_31
  case y8_23_31 => (try dsimp only at hS); unfold execOp; simp only [ho]; go_simp; try with_reducible rfl
  try simp only [Act.put, List.setIfInBounds_toArray, List.set_cons_zero, List.set_cons_succ]
  refine held_run 8 (some 10) (.assign (.tmp 59)) ?v8_23_32 (by rfl) (by kernel_rfl) (by kernel_rfl) (by kernel_rfl) (fun _ _ _ h => h) (fun o ho w hS => ?y8_23_32) (by assumption) ?r8_23_32
  case y8_23_32 => (try dsimp only at hS); unfold execOp; simp only [ho]; go_simp; try with_reducible rfl
  try simp only [Act.put, List.setIfInBounds_toArray, List.set_cons_zero, List.set_cons_succ]
  refine wpAnyH_done (by kernel_rfl) ?_ _
  go_wp2_with fail
  with_reducible refine (HAp2.out _ _ _ HR7.out hc1 HC2.out).mono ?_
  rintro e w8 ⟨v8, rfl, hb8⟩
  have HV8 := Lib.hid (HV7.out.now hb8)
  have HR8 := Lib.hid (HR7.out.now hb8)
  have HT8 := Lib.hid (HT7.out.now hb8)
  have HX8 := Lib.hid (HX7.out.below hb8 HX7.out.lt)
  have HB8 := Lib.hid (HB7.out.trans (hb8.mono HB7.out.size))
  clear hb8
  go_wp2_with (refine wpList_load_g 30 (.tmp 1) rfl rfl w.heap.size rfl _ _ HX8.out _ Try.underlying30 rfl (by kernel_rfl) ?_)
  have HBw9 := (Blk.new w8 30 #[.int .i64 1, .int .i64 1, .int .i64 7, .int .i64 3, .int .i64 2, .int .i64 4, .int .i64 300])
  have HLw9 := (below_new w8 (.cells #[.int .i64 1, .int .i64 1, .int .i64 7, .int .i64 3, .int .i64 2, .int .i64 4, .int .i64 300] 30))
  have hsw9 : (w8.alloc (.cells #[.int .i64 1, .int .i64 1, .int .i64 7, .int .i64 3, .int .i64 2, .int .i64 4, .int .i64 300] 30)).heap.size = w8.heap.size + 1 := by simp
  generalize w8.alloc (.cells #[.int .i64 1, .int .i64 1, .int .i64 7, .int .i64 3, .int .i64 2, .int .i64 4, .int .i64 300] 30) = w9 at HBw9 HLw9 hsw9 ⊢
  replace HBw9 := Lib.hid HBw9
  replace HLw9 := Lib.hid HLw9
  have hlw9 : w8.heap.size < w9.heap.size := by omega
  replace hsw9 := Lib.hid hsw9
  have HV9 : Hid (StrV Rd.cells 7 w9 w9.heap.size (.slice (some ⟨w8.heap.size, 0, none⟩) 1 1) [rdX]) := hide ⟨_, _, rfl, Nat.le_refl _, by simp [maxLen], reads_blk (n := 1) (s := 7) HBw9.out rfl⟩
  have HV5_9 := Lib.hid (HV8.out.now HLw9.out)
  have HR9 := Lib.hid (HR8.out.now HLw9.out)
  have HT9 := Lib.hid (HT8.out.now HLw9.out)
  have HB9 := Lib.hid (HB8.out.trans (HLw9.out.mono HB8.out.size))
  clear HBw9 HLw9 hsw9 hlw9
  with_reducible refine (rsame_any _ _ _ _ HV5_9.out HV9.out).mono ?_
  rintro e w10 ⟨rfl, hb10⟩
  have HR10 := Lib.hid (HR9.out.now hb10)
  have HT10 := Lib.hid (HT9.out.now hb10)
  have HB10 := Lib.hid (HB9.out.trans (hb10.mono HB9.out.size))
  clear hb10
  go_wp2_with fail
  with_reducible refine (HWh.out _ _ _ HR10.out hc1 HC2.out).mono ?_
  rintro e w11 ⟨rfl, hb11⟩
  have HR11 := Lib.hid (HR10.out.now hb11)
  have HT11 := Lib.hid (HT10.out.now hb11)
  have HB11 := Lib.hid (HB10.out.trans (hb11.mono HB10.out.size))
  clear hb11
  go_wp2_with fail
  with_reducible refine (HWh0.out _).mono ?_
  rintro e w12 ⟨rfl, hb12⟩
  have HR12 := Lib.hid (HR11.out.now hb12)
  have HT12 := Lib.hid (HT11.out.now hb12)
  have HB12 := Lib.hid (HB11.out.trans (hb12.mono HB11.out.size))
  clear hb12
  go_wp2_with fail
  with_reducible refine (HWh2.out _ _ _ (Reads.bfront HR12.out (by omega)) (by omega) HC2.out).mono ?_
  rintro e w13 ⟨rfl, hb13⟩
  have HR13 := Lib.hid (HR12.out.now hb13)
  have HT13 := Lib.hid (HT12.out.now hb13)
  have HB13 := Lib.hid (HB12.out.trans (hb13.mono HB12.out.size))
  clear hb13
  go_wp2_with fail
  with_reducible refine (HLa.out _ _ _ HR13.out hc1 HC2.out).mono ?_
  rintro e w14 ⟨rfl, hb14⟩
  have HT14 := Lib.hid (HT13.out.now hb14)
  have HB14 := Lib.hid (HB13.out.trans (hb14.mono HB13.out.size))
  clear hb14
  go_wp2_with fail
  with_reducible refine (HCh.out _ _ HT14.out).mono ?_
  rintro e w' ⟨rfl, rfl⟩
  have hq : ((T : Int) == (T : Int)) = true := beq_self_eq_true _
  go_wp2_with fail
  go_ret
  exact ⟨rfl, HB14.out⟩
end Go.Proofs.Ytdmkkpnjakdnnaa
