/-
  JournalDrops answers true for every input of the form. Its conditions: none.
-/
import Derived.Test.YtdmkkpnjakdnnaaJouR
import Derived.Test.YtdmkkpnjakdnnaaJouL
import Derived.Test.YtdmkkpnjakdnnaaJouK
import Derived.Test.YtdmkkpnjakdnnaaRegC
namespace Go.Proofs.Ytdmkkpnjakdnnaa
open Go.ChangeShapes Go.WideShapes Go.ChangeAt Go.RowKit

set_option maxRecDepth 100000 in
set_option maxHeartbeats 4000000 in
theorem journalDrops_any (w : World) (v : Value) (l : List Rd) (hv : StrV Rd.cells 7 w w.heap.size v l) (ki : Int) (hki : 0 ≤ ki ∧ ki < 256) (hz : l.length ≤ 3000000000000) :
    Calls Try.prog 9 #[v, .int .u8 ki] w fun e w' => e = .returned (.bool true) ∧ Below w.heap.size w w' := by
  obtain ⟨A, c, rfl, hc, hc2, hr⟩ := hv
  obtain ⟨n, hn⟩ : ∃ n, l.length = n := ⟨_, rfl⟩
  have HN := Lib.hid hn
  have HV := Lib.hid (strV_of hr rfl hc hc2)
  have HS := Lib.hid hr
  rw [hn] at HV hc HS ⊢
  have hm := Int.ofNat_le.2 (show n ≤ maxLen by omega)
  have HG : Hid (∃ x y, writeG l = (x, y)) := ⟨_, _, rfl⟩
  obtain ⟨bl, y, hg⟩ := HG.out
  have HG := Lib.hid hg
  have HZ := Lib.hid hz
  clear hn hg hr hz
  obtain ⟨ci, rfl⟩ := Int.eq_ofNat_of_zero_le hki.1
  go_enter Try.func9, Try.ntmps9
  go_wp2_with fail
  with_reducible refine (alive_any _).mono ?_
  rintro e w1 ⟨rfl, hb1⟩
  have HB1 := Lib.hid hb1
  have HV1 := Lib.hid (HV.out.now hb1)
  clear hb1
  have W2 := (Write_any _ l _ HV1.out HZ.out)
  rw [HG.out] at W2
  go_wp2_with fail
  with_reducible refine W2.mono ?_
  rintro e w2 ⟨v2, rfl, ho2, hb2⟩
  have HB2 := Lib.hid (HB1.out.trans (hb2.mono HB1.out.size))
  have HS2 := Lib.hid (HS.out.now HB2.out)
  obtain ⟨A2, n2, c2, rfl, HN2, h21, h22, hr2⟩ := ho2.nam
  have HR2 := Lib.hid hr2
  clear hb2 hr2 ho2 W2
  by_cases hs : n ≤ 30
  · have d1 : decide ((n : Int) > 30) = false := decide_eq_false (by omega)
    by_cases hn0 : n < 2
    · have d0 : decide ((n : Int) < 2) = true := decide_eq_true (by omega)
      go_wp2_with fail
      go_ret
      exact ⟨rfl, HB2.out⟩
    · have d0 : decide ((n : Int) < 2) = false := decide_eq_false (by omega)
      by_cases hok : l.all okB = true
      · have HOk : Hid (∀ r ∈ l, okB r = true) := List.all_eq_true.1 hok
        have hw := HG.out
        rw [writeG_ok hok] at hw
        simp only [Prod.mk.injEq] at hw
        obtain ⟨hbl, rfl⟩ := hw
        have HOa : Hid (l.all okB = true) := hok
        have HBl0 := Lib.hid hbl
        have HBl := Lib.hid hbl
        have hn2 : n2 ≤ 1300 := by
          have h := wrR_len l 0 HOk.out
          rw [HBl.out, HN2.out] at h
          have := HN.out
          omega
        obtain ⟨n1, hn1⟩ : ∃ n1, n - 1 = n1 := ⟨_, rfl⟩
        have hnn : (n : Int) - 1 = (n1 : Int) := by omega
        obtain ⟨i, hi⟩ : ∃ i, ci % n1 = i := ⟨_, rfl⟩
        have hin1 : i < n1 := by rw [← hi]; exact Nat.mod_lt ci (by omega)
        have hin : i + 1 < n := by omega
        have hmod : ((ci : Int)) % (n1 : Int) = (i : Int) := by rw [← hi]; norm_cast
        have hmod2 : ((ci : Int)).tmod (n1 : Int) = (i : Int) := by rw [Int.tmod_eq_emod_of_nonneg (by omega)]; exact hmod
        obtain ⟨b, hb⟩ : ∃ b, begR l i = b := ⟨_, rfl⟩
        obtain ⟨e, he⟩ : ∃ e, begR l (i + 1) = e := ⟨_, rfl⟩
        have hble := begR_le HOk.out i (by rw [HN.out]; omega)
        have hbal := begR_all l (i + 1)
        have hen : e < n2 := by
          have h1 := begR_le HOk.out (i + 1) (by rw [HN.out]; exact hin)
          have h2 := begR_all l (i + 1 + 1)
          rw [HBl0.out, HN2.out] at h2
          rw [he] at h1
          omega
        rw [hb, he] at hble
        rw [he, HBl.out, HN2.out] at hbal
        have HBb := Lib.hid hb
        have HBe := Lib.hid he
        have HCb : Hid (∀ W : World, Strs Rd.cells 7 W W.heap.size A n l → Calls Try.prog 22 #[.slice A n c, .int .i64 (i : Int)] W fun e w' => e = .returned (.int .i64 (b : Int)) ∧ Below W.heap.size W w') := fun W h => by
          have h2 := begin_any A n c i l W h HN.out hc hc2 (by omega) (by omega) HOa.out
          rw [HBb.out] at h2
          exact h2
        have HCe : Hid (∀ W : World, Strs Rd.cells 7 W W.heap.size A n l → Calls Try.prog 22 #[.slice A n c, .int .i64 ((i : Int) + 1)] W fun e' w' => e' = .returned (.int .i64 (e : Int)) ∧ Below W.heap.size W w') := fun W h => by
          have h2 := begin_any A n c (i + 1) l W h HN.out hc hc2 (by omega) (by omega) HOa.out
          rw [HBe.out] at h2
          exact h2
        have d2 : decide ((b : Int) ≥ (e : Int)) = false := decide_eq_false (by omega)
        have d3 : decide ((e : Int) > (n2 : Int)) = false := decide_eq_false (by omega)
        have HT1 : Hid (scanR 0 (bl.take b) = (l.take i, b, lkR 0 (l.take i))) := by
          show _ = _
          rw [← hb, ← hbl, wr_take, scanR_back _ _ (take_ok HOk.out i)]
          rfl
        have HT2 : Hid (scanR 0 (bl.take e) = (l.take (i + 1), e, lkR 0 (l.take (i + 1)))) := by
          show _ = _
          rw [← he, ← hbl, wr_take, scanR_back _ _ (take_ok HOk.out (i + 1))]
          rfl
        have HSc : Hid (lkR 0 (l.take i) ≠ lkR 0 (l.take (i + 1)) → scanR 0 (bl.take b ++ bl.drop e) = (l.take i, b, lkR 0 (l.take i))) := by
          intro hne
          have h := scanR_dropped HOk.out (by rw [HN.out]; exact hin) hne
          rw [hbl, hb, he] at h
          exact h
        obtain ⟨T1, ht1⟩ : ∃ x, lkR 0 (l.take i) = x := ⟨_, rfl⟩
        obtain ⟨T2, ht2⟩ : ∃ x, lkR 0 (l.take (i + 1)) = x := ⟨_, rfl⟩
        rw [ht1] at HT1 HSc
        rw [ht2] at HT2 HSc
        obtain ⟨q, hq⟩ : ∃ q : Bool, ((T1 : Int) == (T2 : Int)) = q := ⟨_, rfl⟩
        clear hi hb he hbl hn1 ht1 ht2
        go_wp2_with fail
        with_reducible refine (HCb.out _ HS2.out).mono ?_
        rintro e' w3 ⟨rfl, hb3⟩
        have HB3 := Lib.hid (HB2.out.trans (hb3.mono HB2.out.size))
        have HS3 := Lib.hid (HS2.out.now hb3)
        have HR3 := Lib.hid (HR2.out.now hb3)
        clear hb3
        go_wp2_with fail
        with_reducible refine (HCe.out _ HS3.out).mono ?_
        rintro e' w4 ⟨rfl, hb4⟩
        have HB4 := Lib.hid (HB3.out.trans (hb4.mono HB3.out.size))
        have HS4 := Lib.hid (HS3.out.now hb4)
        have HR4 := Lib.hid (HR3.out.now hb4)
        clear hb4
        have hsb := slc_to A2 n2 c2 b (by omega)
        have hse := slc_to A2 n2 c2 e (by omega)
        have HRb : Hid (Bytes w4 w4.heap.size A2 b (bl.take b)) := hide (Reads.bfront HR4.out (by omega))
        have HRe : Hid (Bytes w4 w4.heap.size A2 e (bl.take e)) := hide (Reads.bfront HR4.out (by omega))
        go_wp2_with fail
        go_cut [62] (fun s wx => s = .bool q ∧ Below w4.heap.size w4 wx)
        case first =>
          refine wp_region_held_drew (S := fun _ => True) (by kernel_rfl) (trivial) (fun hHeld => ?_)
          refine held_run 0 (some 54) (.move (.tmp 5)) ?v10_1_2 (by rfl) (by kernel_rfl) (by kernel_rfl) (by kernel_rfl) (fun _ _ _ h => h) (fun o ho w hS => ?y10_1_2) (by assumption) ?r10_1_2
          case y10_1_2 => (try dsimp only at hS); unfold execOp; simp only [ho]; go_simp; try with_reducible rfl
          try simp only [Act.put, List.setIfInBounds_toArray, List.set_cons_zero, List.set_cons_succ]
          refine held_run 1 (some 55) (.move (.tmp 8)) ?v10_1_3 (by rfl) (by kernel_rfl) (by kernel_rfl) (by kernel_rfl) (fun _ _ _ h => h) (fun o ho w hS => ?y10_1_3) (by assumption) ?r10_1_3
          case y10_1_3 => (try dsimp only at hS); unfold execOp; simp only [ho]; go_simp; try with_reducible rfl
          try simp only [Act.put, List.setIfInBounds_toArray, List.set_cons_zero, List.set_cons_succ]
          refine held_run 2 (some 56) (.slice 24 (.tmp 54) none (some (.tmp 55)) none) ?v10_1_4 (by rfl) (by kernel_rfl) (by kernel_rfl) (by kernel_rfl) (fun _ _ _ h => h) (fun o ho w hS => ?y10_1_4) (by assumption) ?r10_1_4
          case y10_1_4 => (try dsimp only at hS); unfold execOp; simp only [ho]; go_simp; try with_reducible rfl
          try simp only [Act.put, List.setIfInBounds_toArray, List.set_cons_zero, List.set_cons_succ]
          refine held_run 4 (some 58) (.move (.tmp 5)) ?v10_1_5 (by rfl) (by kernel_rfl) (by kernel_rfl) (by kernel_rfl) (fun _ _ _ h => h) (fun o ho w hS => ?y10_1_5) (by assumption) ?r10_1_5
          case y10_1_5 => (try dsimp only at hS); unfold execOp; simp only [ho]; go_simp; try with_reducible rfl
          try simp only [Act.put, List.setIfInBounds_toArray, List.set_cons_zero, List.set_cons_succ]
          refine held_run 5 (some 59) (.move (.tmp 9)) ?v10_1_6 (by rfl) (by kernel_rfl) (by kernel_rfl) (by kernel_rfl) (fun _ _ _ h => h) (fun o ho w hS => ?y10_1_6) (by assumption) ?r10_1_6
          case y10_1_6 => (try dsimp only at hS); unfold execOp; simp only [ho]; go_simp; try with_reducible rfl
          try simp only [Act.put, List.setIfInBounds_toArray, List.set_cons_zero, List.set_cons_succ]
          refine held_run 6 (some 60) (.slice 24 (.tmp 58) none (some (.tmp 59)) none) ?v10_1_7 (by rfl) (by kernel_rfl) (by kernel_rfl) (by kernel_rfl) (fun _ _ _ h => h) (fun o ho w hS => ?y10_1_7) (by assumption) ?r10_1_7
          case y10_1_7 => (try dsimp only at hS); unfold execOp; simp only [ho]; go_simp; try with_reducible rfl
          try simp only [Act.put, List.setIfInBounds_toArray, List.set_cons_zero, List.set_cons_succ]
          refine held_call 3 (some 57) 20 [(.tmp 56)] #[24] #[.slice A2 b c2] (by rfl) (by rfl) (by kernel_rfl) Try.func20 (by rfl) (by rfl) ?_
          refine (Last_any A2 b c2 (bl.take b) _ _ _ _ (show Bytes w4.drew w4.drew.heap.size A2 b (bl.take b) from HRb.out) (by omega) (by omega) h22 HT1.out).mono ?_
          rintro e' w5 ⟨rfl, hb5⟩
          refine ⟨_, rfl, trivial, ?_⟩
          try simp only [Act.put, List.setIfInBounds_toArray, List.set_cons_zero, List.set_cons_succ]
          refine held_call 7 (some 61) 20 [(.tmp 60)] #[24] #[.slice A2 e c2] (by rfl) (by rfl) (by kernel_rfl) Try.func20 (by rfl) (by rfl) ?_
          refine (Last_any A2 e c2 (bl.take e) _ _ _ _ (HRe.out.now (below_drewN (Below.refl _ _) 1 |>.trans hb5)) (by omega) (by omega) h22 HT2.out).mono ?_
          rintro e' w6 ⟨rfl, hb6⟩
          have HBx : Hid (Below w4.heap.size w4 w6) := hide ((Below.refl _ _).drew.trans (hb5.trans (hb6.mono hb5.size)))
          refine ⟨_, rfl, trivial, ?_⟩
          try simp only [Act.put, List.setIfInBounds_toArray, List.set_cons_zero, List.set_cons_succ]
          refine held_run 8 (some 62) (.binOp .eql 37 (.tmp 57) (.tmp 61) 37) ?v10_1_10 (by rfl) (by kernel_rfl) (by kernel_rfl) (by kernel_rfl) (fun _ _ _ h => h) (fun o ho w hS => ?y10_1_10) (by assumption) ?r10_1_10
          case y10_1_10 => (try dsimp only at hS); unfold execOp; simp only [ho]; go_simp; try with_reducible rfl
          try simp only [Act.put, List.setIfInBounds_toArray, List.set_cons_zero, List.set_cons_succ]
          refine wpAnyH_done (by kernel_rfl) ?_ _
          go_wp2_with fail
          go_meet
          exact ⟨rfl, HBx.out⟩
        obtain ⟨rfl, hcut⟩ := hcut
        have HB5 := Lib.hid (HB4.out.trans (hcut.mono HB4.out.size))
        have HS5 := Lib.hid (HS4.out.now hcut)
        have HR5 := Lib.hid (HR4.out.now hcut)
        have HRb5 := Lib.hid (HRb.out.now hcut)
        clear hcut
        cases q with
        | true =>
          go_wp2_with fail
          go_ret
          exact ⟨rfl, HB5.out⟩
        | false =>
          have hTn : T1 ≠ T2 := by
            intro h0
            rw [h0] at hq
            simp at hq
          have HSd := Lib.hid (HSc.out hTn)
          clear HSc hq
          have hsf := slc_from A2 n2 c2 e (by omega)
          have HRf : Hid (Bytes wc wc.heap.size (cutA A2 c2 e) (n2 - e) (bl.drop e)) := hide (Reads.from_ HR5.out (by omega) h21)
          obtain ⟨A6, hA6⟩ : ∃ x, cutA A2 c2 e = x := ⟨_, rfl⟩
          obtain ⟨n6, hn6⟩ : ∃ x, n2 - e = x := ⟨_, rfl⟩
          obtain ⟨c6, hc6⟩ : ∃ x, c2 - e = x := ⟨_, rfl⟩
          have hn62 : n6 ≤ 1300 := by omega
          rw [hA6, hn6] at HRf
          rw [hA6, hn6, hc6] at hsf
          have hsz : b < b + n6 := by omega
          clear hA6 hn6 hc6
          go_wp2_with fail
          refine wp_region_held_drew (S := fun _ => True) (by kernel_rfl) (trivial) (fun hHeld => ?_)
          refine held_run 1 (some 64) (.move (.tmp 5)) ?v12_11_12 (by rfl) (by kernel_rfl) (by kernel_rfl) (by kernel_rfl) (fun _ _ _ h => h) (fun o ho w hS => ?y12_11_12) (by assumption) ?r12_11_12
          case y12_11_12 => (try dsimp only at hS); unfold execOp; simp only [ho]; go_simp; try with_reducible rfl
          try simp only [Act.put, List.setIfInBounds_toArray, List.set_cons_zero, List.set_cons_succ]
          refine held_run 2 (some 65) (.move (.tmp 8)) ?v12_11_13 (by rfl) (by kernel_rfl) (by kernel_rfl) (by kernel_rfl) (fun _ _ _ h => h) (fun o ho w hS => ?y12_11_13) (by assumption) ?r12_11_13
          case y12_11_13 => (try dsimp only at hS); unfold execOp; simp only [ho]; go_simp; try with_reducible rfl
          try simp only [Act.put, List.setIfInBounds_toArray, List.set_cons_zero, List.set_cons_succ]
          refine held_run 3 (some 66) (.slice 24 (.tmp 64) none (some (.tmp 65)) none) ?v12_11_14 (by rfl) (by kernel_rfl) (by kernel_rfl) (by kernel_rfl) (fun _ _ _ h => h) (fun o ho w hS => ?y12_11_14) (by assumption) ?r12_11_14
          case y12_11_14 => (try dsimp only at hS); unfold execOp; simp only [ho]; go_simp; try with_reducible rfl
          try simp only [Act.put, List.setIfInBounds_toArray, List.set_cons_zero, List.set_cons_succ]
          refine held_run 5 (some 68) (.move (.tmp 5)) ?v12_11_15 (by rfl) (by kernel_rfl) (by kernel_rfl) (by kernel_rfl) (fun _ _ _ h => h) (fun o ho w hS => ?y12_11_15) (by assumption) ?r12_11_15
          case y12_11_15 => (try dsimp only at hS); unfold execOp; simp only [ho]; go_simp; try with_reducible rfl
          try simp only [Act.put, List.setIfInBounds_toArray, List.set_cons_zero, List.set_cons_succ]
          refine held_run 6 (some 69) (.move (.tmp 9)) ?v12_11_16 (by rfl) (by kernel_rfl) (by kernel_rfl) (by kernel_rfl) (fun _ _ _ h => h) (fun o ho w hS => ?y12_11_16) (by assumption) ?r12_11_16
          case y12_11_16 => (try dsimp only at hS); unfold execOp; simp only [ho]; go_simp; try with_reducible rfl
          try simp only [Act.put, List.setIfInBounds_toArray, List.set_cons_zero, List.set_cons_succ]
          refine held_run 7 (some 70) (.slice 24 (.tmp 68) (some (.tmp 69)) none none) ?v12_11_17 (by rfl) (by kernel_rfl) (by kernel_rfl) (by kernel_rfl) (fun _ _ _ h => h) (fun o ho w hS => ?y12_11_17) (by assumption) ?r12_11_17
          case y12_11_17 => (try dsimp only at hS); unfold execOp; simp only [ho]; go_simp; try with_reducible rfl
          try simp only [Act.put, List.setIfInBounds_toArray, List.set_cons_zero, List.set_cons_succ]
          refine held_one 0 (by kernel_rfl) ?_
          refine op_lit 0 (some 63) 24 5 0 #[] #[] (by rfl) (by have h := run_lit0 (P := Try.prog) wc.drew 24 5 Try.underlying24 (by kernel_rfl); simpa using h) ?_
          intro w6 _ hb6 he6
          have hw6 : w6.ownsRow wc.drew.heap.size 5 1 (.slice (some ⟨wc.drew.heap.size, 0, none⟩) 0 0) 0 [] := by rw [he6]; exact World.ownsRow_lit wc.drew #[] 0 (Nat.le_refl _) (by simp [maxLen]) rfl
          have HR6 : Hid (Bytes w6 w6.heap.size A2 b (bl.take b)) := hide (HRb5.out.now ((Below.refl _ _).drew.trans hb6))
          have HF6 : Hid (Bytes w6 w6.heap.size A6 n6 (bl.drop e)) := hide (HRf.out.now ((Below.refl _ _).drew.trans hb6))
          refine ⟨trivial, ?_⟩
          try simp only [Act.put, List.setIfInBounds_toArray, List.set_cons_zero, List.set_cons_succ]
          refine held_one 4 (by kernel_rfl) ?_
          refine op_app ei_byte 4 (some 67) (.tmp 63) (.tmp 66) (by rfl) wc.drew.heap.size _ 0 [] rfl (hw6) w6.heap.size A2 b c2 ((bl.take b).map B8) rfl (HR6.out) (oneCell_B8 _) (by simp only [maxLen]; omega) (by omega) (hb6.size) ?_
          intro v7 w7 hown7 _ hb7 _
          have HB67 : Hid (Below wc.drew.heap.size wc.drew w7) := hide (hb6.trans hb7)
          have HF7 : Hid (Bytes w7 w7.heap.size A6 n6 (bl.drop e)) := hide (HRf.out.now ((Below.refl _ _).drew.trans HB67.out))
          simp only [Nat.zero_add, List.nil_append] at hown7
          refine ⟨trivial, ?_⟩
          try simp only [Act.put, List.setIfInBounds_toArray, List.set_cons_zero, List.set_cons_succ]
          refine held_one 8 (by kernel_rfl) ?_
          refine op_app ei_byte 8 (some 71) (.tmp 67) (.tmp 70) (by rfl) wc.drew.heap.size _ b ((bl.take b).map B8) rfl (hown7) w7.heap.size A6 n6 c6 ((bl.drop e).map B8) rfl (HF7.out) (oneCell_B8 _) (by simp only [maxLen]; omega) (by omega) (HB67.out.size) ?_
          intro v8 w8 hown8 _ hb8 _
          have HB8 : Hid (Below w.heap.size w w8) := hide (HB5.out.trans (((Below.refl _ _).drew.trans (HB67.out.trans hb8)).mono HB5.out.size))
          rw [← List.map_append] at hown8
          obtain ⟨A8, c8, rfl, h81, h82, hr8⟩ := own_open hown8
          have HR8 : Hid (Bytes w8 w8.heap.size A8 (b + n6) (bl.take b ++ bl.drop e)) := hide hr8
          clear hown7 hown8 hb8 hb7 hr8
          refine ⟨trivial, ?_⟩
          try simp only [Act.put, List.setIfInBounds_toArray, List.set_cons_zero, List.set_cons_succ]
          refine held_run 9 (some 10) (.assign (.tmp 71)) ?v12_11_21 (by rfl) (by kernel_rfl) (by kernel_rfl) (by kernel_rfl) (fun _ _ _ h => h) (fun o ho w hS => ?y12_11_21) (by assumption) ?r12_11_21
          case y12_11_21 => (try dsimp only at hS); unfold execOp; simp only [ho]; go_simp; try with_reducible rfl
          try simp only [Act.put, List.setIfInBounds_toArray, List.set_cons_zero, List.set_cons_succ]
          refine wpAnyH_done (by kernel_rfl) ?_ _
          clear hsf hsb hse
          have HS8 : Hid (Strs Rd.cells 7 w8 w8.heap.size A n l) := hide (HS.out.now HB8.out)
          go_wp2_with fail
          with_reducible refine (Read_any A8 (b + n6) c8 (bl.take b ++ bl.drop e) _ _ _ _ HR8.out (by omega) h81 h82 HSd.out).mono ?_
          rintro e' w9 ⟨v9, rfl, ho9, hb9⟩
          have HB9 := Lib.hid (HB8.out.trans (hb9.mono HB8.out.size))
          have HS9 := Lib.hid (HS8.out.now hb9)
          have HR9 := Lib.hid (HR8.out.now hb9)
          have HV9 := Lib.hid ho9.strV
          clear hb9 ho9
          have hsr := slr_to A n c i (by omega)
          have HVi : Hid (StrV Rd.cells 7 w9 w9.heap.size (.slice A i c) (l.take i)) := hide (take_strV HS9.out HN.out (by omega) hc hc2)
          go_wp2_with fail
          with_reducible refine (rsame_any _ _ (l.take i) _ HV9.out HVi.out).mono ?_
          rintro e' w10 ⟨rfl, hb10⟩
          have HB10 := Lib.hid (HB9.out.trans (hb10.mono HB9.out.size))
          have HR10 := Lib.hid (HR9.out.now hb10)
          clear hb10
          go_wp2_with fail
          with_reducible refine (Whole_any false A8 (b + n6) c8 (bl.take b ++ bl.drop e) _ _ _ _ HR10.out (by omega) h81 h82 HSd.out (decide_eq_false (by omega))).mono ?_
          rintro e' w11 ⟨rfl, hb11⟩
          have HB11 := Lib.hid (HB10.out.trans (hb11.mono HB10.out.size))
          clear hb11
          go_wp2_with fail
          go_ret
          exact ⟨ret_b (by simp), HB11.out⟩
      · have hw := HG.out
        obtain ⟨r, hr1, hr2⟩ : ∃ r, r ∈ l ∧ okB r = false := by simpa using hok
        rw [writeG_bad hr1 hr2] at hw
        simp only [Prod.mk.injEq] at hw
        obtain ⟨rfl, rfl⟩ := hw
        go_wp2_with fail
        go_ret
        exact ⟨rfl, HB2.out⟩
  · have d1 : decide ((n : Int) > 30) = true := decide_eq_true (by omega)
    go_wp2_with fail
    go_ret
    exact ⟨rfl, HB2.out⟩


theorem own_journalDrops : ownKnob Try.prog.godebug = none := by kernel_rfl
theorem laidOut_journalDrops : laidOutB Try.prog = true := by kernel_rfl
set_option maxRecDepth 100000 in
theorem journalDrops_lifted (os : Os) (started : os.Started) (H : Type) (enc : TypeId × Value → H) :
    ReturnsInHanded {} Try.checked os 9 .any (Rows.journalDropsSpec.pre6 enc Try.prog Try.f9 Rows.journalDropsRow.domain false) (Rows.journalDropsSpec.post enc Try.prog Try.f9 false true false false) := by
  refine returnsInHanded_of_change_sized (C := Try.checked) own_journalDrops started (by kernel_rfl) Try.func9
    (ChangeSpec.witness6 (enc := enc) (C := Try.checked) false ⟨#[], #[.slice none 0 0, .int .u8 0], []⟩ 8 (by kernel_rfl) (by kernel_rfl) (by kernel_rfl) (by kernel_rfl)) ?_
  intro W base args ds gs before hval0 hW hcnd hsz0 _
  have hval : ∀ (j : Nat) t v, Try.f9.params[j]? = some t → args[j]? = some v → Value.okWide Try.prog W .any base t v := hval0
  have hW' := hW
  obtain ⟨p, q, hA0, hV, rfl, hfz, hnd⟩ := hW
  have hA : DataW.TrodAll enc Try.prog W 0 (fun _ => true) true Try.f9.params.toList args.toList ds p := hA0
  have hsz : (DataW.weightsEach Try.prog (Try.f9.params.toList ++ Rows.journalDropsSpec.plain.varTypes Try.prog) (ds ++ gs)).all (· ≤ reachBytes) = true := hsz0
  rw [Try.params9] at hA hval hsz
  obtain ⟨v0, vs0, d0, ds0, p0, q0, hargs, rfl, rfl, h0, r0⟩ := trodAll_cons hA
  obtain ⟨v1, vs1, d1, ds1, p1, q1, rfl, rfl, rfl, h1, r1⟩ := trodAll_cons r0
  obtain ⟨rfl, rfl, rfl⟩ := trodAll_nil r1
  obtain rfl : args = #[v0, v1] := by cases args; simp_all
  obtain ⟨rfl, rfl⟩ := trodVars_none hV
  obtain ⟨l, hl⟩ := open_rides (hval 0 22 v0 rfl rfl) h0
  obtain ⟨ki, rfl, ki0, ki1⟩ := open_u8 Try.underlying5 (hval 1 5 v1 rfl rfl) h1
  have hz0 := rides_reach hl h0 hsz
  refine (journalDrops_any W v0 l hl ki ⟨ki0, ki1⟩ hz0).mono fun e W' ⟨he, hb⟩ => ?_
  subst he
  exact ⟨_, rfl, law_post laidOut_journalDrops (by kernel_rfl) rfl rfl Try.underlying4 hW' rfl hb⟩

theorem journalDrops_holds : Rows.JournalDropsSaid :=
  OpenClaim.holds_of_wide 9 Try.f9 rfl rfl rfl rfl rfl rfl rfl ⟨rfl, rfl, rfl, rfl, rfl⟩ rfl rfl rfl rfl rfl (by kernel_rfl) Try.func9 (by kernel_rfl)
    (of_decide_eq_true (by kernel_rfl)) (by unfold Func.isWrapper; rw [if_neg (by decide +kernel)]; exact ⟨rfl, rfl⟩)
    (fun os started H enc _ => journalDrops_lifted os started H enc)
#print axioms journalDrops_holds

end Go.Proofs.Ytdmkkpnjakdnnaa
