/-
  read of the reference of chapter 25, walked.
-/
import Derived.Test.YthlhphifibldnaaCodecV
import Derived.Test.YthlhphifibldnaaOwnI
import Derived.Test.YthlhphifibldnaaMedF
import Derived.Deep.Light
import Derived.Deep.RegionWith
import Derived.Deep.RegionHeld3
import Derived.StillTailTactics
import Derived.IntWalk
namespace Go.Proofs.Ythlhphifibldnaa
open Go.RowKit

def ReadR (body : List UInt8) (w : World) (e : Ending) (w' : World) : Prop := ∃ (m : Med) (T : Nat), e = .returned (.agg #[.int .i64 m.ser, .int .i64 m.cnt, .int .i64 m.prd, .int .i64 m.fst, .int .i64 m.lft, .int .i64 m.tdy, .int .i64 m.lif, .int .i64 m.at_, .int .u64 m.tag]) ∧ m.tag = (T : Int) ∧ T < 18446744073709551616 ∧ ParseP body m true ∧ Below w.heap.size w w'
theorem read_bad {body : List UInt8} {w w' : World} (h : ∀ L tl, ¬ Enc8 body L tl) (hb : Below w.heap.size w w') : ReadR body w (.returned (.agg #[.int .i64 0, .int .i64 0, .int .i64 0, .int .i64 0, .int .i64 0, .int .i64 0, .int .i64 0, .int .i64 0, .int .u64 0])) w' :=
  ⟨zeroM, 0, rfl, rfl, by omega, parse_none h, hb⟩

set_option maxRecDepth 100000 in
set_option maxHeartbeats 4000000 in
theorem read_any (A : Option Addr) (n c : Nat) (body : List UInt8) (w : World) (hr : Bytes w w.heap.size A n body) (hn : n ≤ 1000000) (hc : n ≤ c) (hc2 : c ≤ maxLen) :
    Calls Try.prog 38 #[.slice A n c] w (ReadR body w) := by
  have HR := Lib.hid hr
  have HI0 := Lib.hid (inv_0 body)
  have HM := Lib.hid hc2
  clear hr hc2
  go_enter Try.func38, Try.ntmps38
  go_wp2_with fail
  have HBwa := (Blk.new w 24 #[.int .i64 0, .int .i64 0, .int .i64 0, .int .i64 0, .int .i64 0, .int .i64 0, .int .i64 0, .int .i64 0, .int .u64 0])
  have HLwa := (below_new w (.cells #[.int .i64 0, .int .i64 0, .int .i64 0, .int .i64 0, .int .i64 0, .int .i64 0, .int .i64 0, .int .i64 0, .int .u64 0] 24))
  have hswa : (w.alloc (.cells #[.int .i64 0, .int .i64 0, .int .i64 0, .int .i64 0, .int .i64 0, .int .i64 0, .int .i64 0, .int .i64 0, .int .u64 0] 24)).heap.size = w.heap.size + 1 := by simp
  generalize w.alloc (.cells #[.int .i64 0, .int .i64 0, .int .i64 0, .int .i64 0, .int .i64 0, .int .i64 0, .int .i64 0, .int .i64 0, .int .u64 0] 24) = wa at HBwa HLwa hswa ⊢
  replace HBwa := Lib.hid HBwa
  replace HLwa := Lib.hid HLwa
  have hlwa : w.heap.size < wa.heap.size := by omega
  replace hswa := Lib.hid hswa
  have HR0 := Lib.hid (HR.out.below HLwa.out)
  have hl0 : w.heap.size + 1 ≤ wa.heap.size := by have := hswa.out; omega
  clear hswa hlwa
  go_loopw [0, 3] (fun s i wr => ∃ (k n c : Nat) (A : Option Addr) (r : List UInt8) (f : List Int), k ≤ 8 ∧ OwnI wr (w.heap.size + 1) i f ∧ s = .slice A n c ∧ n ≤ c ∧ n ≤ 1000000 ∧ c ≤ maxLen ∧ Bytes wr w.heap.size A n r ∧ f.length = k ∧ (∀ z ∈ f, 0 ≤ z ∧ z ≤ 9223372036854775807) ∧ InvP body k r f ∧ Blk wr w.heap.size 24 #[.int .i64 0, .int .i64 0, .int .i64 0, .int .i64 0, .int .i64 0, .int .i64 0, .int .i64 0, .int .i64 0, .int .u64 0] ∧ w.heap.size + 1 ≤ wr.heap.size ∧ Below w.heap.size w wr) (fun _ i _ => 8 - lenOf i)
  case atStart => exact ⟨0, n, c, A, body, [], by omega, OwnI.nil _ _, rfl, hc, hn, HM.out, HR0.out, rfl, by simp, HI0.out, HBwa.out, hl0, HLwa.out⟩
  case round =>
    obtain ⟨k, n, c, A, r, f, hk, hown, rfl, hc, hn, hm, hr, hf, hfb, hinv, hbz, hl, hbr⟩ := hrel
    obtain ⟨wo, rfl⟩ : ∃ wo : World, wo = wr := ⟨_, rfl⟩
    obtain ⟨A2, c2, rfl, hc21, hc22, hrd⟩ := own_open (hown.row hf)
    have HO := Lib.hid (hown.row hf)
    have HRd : Hid (Ints wo wo.heap.size A2 k f) := hide hrd
    have HR := Lib.hid hr
    have HL := Lib.hid hr.blen
    have HM := Lib.hid hm
    have HFl := Lib.hid hf
    have HFb := Lib.hid hfb
    have HInv := Lib.hid hinv
    have HBz := Lib.hid hbz
    have HB := Lib.hid hbr
    clear hr hm hf hfb hinv hbz hbr hown hrd
    by_cases hlt : k < 8
    · by_cases hbig : (getN r).2.2 ≠ 0 ∨ 20000001 < (getN r).1
      · obtain ⟨N, K, E, hg⟩ : ∃ N K E, getN r = (N, K, E) := ⟨_, _, _, rfl⟩
        have hNo := inv_bad HInv.out hlt hg (by rw [hg] at hbig; exact hbig)
        have HNo : Hid (∀ L tl, ¬ Enc8 body L tl) := hide hNo
        rw [hg] at hbig
        simp only at hbig
        have HG := Lib.hid hg
        clear hg hNo
        by_cases hE : E = 0
        · subst hE
          have hN : 20000001 < N := by omega
          clear hbig
          go_wp2_with fail
          with_reducible refine (rget_any N K 0 _ _ _ _ _ _ HR.out HG.out).mono ?_
          rintro e w' ⟨rfl, rfl⟩
          go_wp2_with
            (refine wpList_store_blk rfl 24 (.tmp 2) (.tmp 24) rfl w.heap.size #[.int .i64 0, .int .i64 0, .int .i64 0, .int .i64 0, .int .i64 0, .int .i64 0, .int .i64 0, .int .i64 0, .int .u64 0] rfl rfl _ _ HBz.out (by kernel_rfl) rfl (by decide +kernel) ?_
             intro w5 HBz5 hon5
             have HZ5 := Lib.hid HBz5
             have HB5 := Lib.hid (hon5.below HB.out (Nat.le_refl _))
             clear HBz5 hon5)
          refine bodyPost_ret (v := .agg #[.int .i64 0, .int .i64 0, .int .i64 0, .int .i64 0, .int .i64 0, .int .i64 0, .int .i64 0, .int .i64 0, .int .u64 0]) (results_cell_row rfl _ _ w.heap.size 24 _ (0, 0) _ rfl HZ5.out Try.underlying24 rfl (by kernel_rfl)) rfl ?_
          exact read_bad HNo.out HB5.out
        · have hb : ((E : Int) != 0) = true := by rw [bne_iff_ne]; omega
          clear hbig hE
          go_wp2_with fail
          with_reducible refine (rget_any N K E _ _ _ _ _ _ HR.out HG.out).mono ?_
          rintro e w' ⟨rfl, rfl⟩
          go_wp2_with
            (refine wpList_store_blk rfl 24 (.tmp 2) (.tmp 24) rfl w.heap.size #[.int .i64 0, .int .i64 0, .int .i64 0, .int .i64 0, .int .i64 0, .int .i64 0, .int .i64 0, .int .i64 0, .int .u64 0] rfl rfl _ _ HBz.out (by kernel_rfl) rfl (by decide +kernel) ?_
             intro w5 HBz5 hon5
             have HZ5 := Lib.hid HBz5
             have HB5 := Lib.hid (hon5.below HB.out (Nat.le_refl _))
             clear HBz5 hon5)
          refine bodyPost_ret (v := .agg #[.int .i64 0, .int .i64 0, .int .i64 0, .int .i64 0, .int .i64 0, .int .i64 0, .int .i64 0, .int .i64 0, .int .u64 0]) (results_cell_row rfl _ _ w.heap.size 24 _ (0, 0) _ rfl HZ5.out Try.underlying24 rfl (by kernel_rfl)) rfl ?_
          exact read_bad HNo.out HB5.out
      · rcases getN_cases r with ⟨N, K, hg, hk1, hk9, hkl, hN, hp1, hp2⟩ | ⟨E, hg, hE, hp1⟩
        · rw [hg] at hbig
          have hN2 : N ≤ 20000001 := by simp only [not_or] at hbig; omega
          have hkn : K ≤ n := by rw [← HL.out]; exact hkl
          have HG := Lib.hid hg
          clear hkl hp1 hp2 hg hbig
          have HFN : Hid (∀ z ∈ f ++ [(N : Int)], 0 ≤ z ∧ z ≤ 9223372036854775807) := by
            intro z hz
            rcases List.mem_append.1 hz with hz | hz
            · exact HFb.out z hz
            · simp only [List.mem_cons, List.not_mem_nil, or_false] at hz
              subst hz
              omega
          have HInv2 : Hid (InvP body (k + 1) (r.drop K) (f ++ [(N : Int)])) := hide (inv_step HInv.out hlt HG.out)
          go_wp2_with fail
          with_reducible refine (rget_any N K 0 _ _ _ _ _ _ HR.out HG.out).mono ?_
          rintro e w' ⟨rfl, rfl⟩
          have HCut : Hid (∀ {W : World}, Bytes W w.heap.size A n r → Bytes W w.heap.size (if c = K then A else A.map (·.add K)) (n - K) (r.drop K)) := by
            intro W hW
            have h := hW.bcut (k := K) (m := n) (cap := c) hkn (Nat.le_refl _) hc
            rwa [List.take_of_length_le (by rw [List.length_drop, HL.out]; exact Nat.le_refl _)] at h
          by_cases hck : c = K
          · have hnk : n = K := by omega
            subst hnk
            go_wp2_with
              (at_builtin
               refine wpList_app_lit ei_ints rfl (.tmp 25) (.tmp 27) rfl (w.heap.size + 1) (.slice A2 k c2) k (f.map (Value.int .i64)) rfl HO.out 1 rfl rfl (by simp [Value.oneCell']) (by simp only [maxLen]; omega) (by omega) hl ?_
               intro v4 w4 hown4 hb4 hg4 hat4
               have HO4 := Lib.hid hown4
               have HB4 := Lib.hid (HB.out.trans (hb4.mono (Nat.le_succ _)))
               have HBz4 := Lib.hid (HBz.out.below hb4 (Nat.lt_succ_self _))
               have HR4 := Lib.hid (HR.out.below (hb4.mono (Nat.le_succ _)))
               have hl4 : w.heap.size + 1 ≤ w4.heap.size := Nat.le_trans hl hb4.size
               clear hown4 hb4 hg4 hat4)
            go_roundw
            case rel =>
              have h := HCut.out HR4.out
              rw [if_pos hck, Nat.sub_self] at h
              refine ⟨k + 1, 0, _, _, _, _, by omega, ?_, rfl, by omega, by omega, by have := HM.out; omega, h, by simp [HFl.out], HFN.out, HInv2.out, HBz4.out, hl4, HB4.out⟩
              exact OwnI.mk' HO4.out (by simp [HFl.out]) (by simp)
            case measure =>
              obtain ⟨A4, c4, rfl, _⟩ := own_open HO4.out
              simp [lenOf]
              omega
          · go_wp2_with
              (at_builtin
               refine wpList_app_lit ei_ints rfl (.tmp 25) (.tmp 27) rfl (w.heap.size + 1) (.slice A2 k c2) k (f.map (Value.int .i64)) rfl HO.out 1 rfl rfl (by simp [Value.oneCell']) (by simp only [maxLen]; omega) (by omega) hl ?_
               intro v4 w4 hown4 hb4 hg4 hat4
               have HO4 := Lib.hid hown4
               have HB4 := Lib.hid (HB.out.trans (hb4.mono (Nat.le_succ _)))
               have HBz4 := Lib.hid (HBz.out.below hb4 (Nat.lt_succ_self _))
               have HR4 := Lib.hid (HR.out.below (hb4.mono (Nat.le_succ _)))
               have hl4 : w.heap.size + 1 ≤ w4.heap.size := Nat.le_trans hl hb4.size
               clear hown4 hb4 hg4 hat4)
            go_roundw
            case rel =>
              have h := HCut.out HR4.out
              rw [if_neg hck] at h
              refine ⟨k + 1, n - K, _, _, _, _, by omega, ?_, rfl, by omega, by omega, by have := HM.out; omega, h, by simp [HFl.out], HFN.out, HInv2.out, HBz4.out, hl4, HB4.out⟩
              exact OwnI.mk' HO4.out (by simp [HFl.out]) (by simp)
            case measure =>
              obtain ⟨A4, c4, rfl, _⟩ := own_open HO4.out
              simp [lenOf]
              omega
        · rw [hg] at hbig
          simp only [not_or] at hbig
          omega
    · obtain rfl : k = 8 := by omega
      obtain ⟨f0, f1, f2, f3, f4, f5, f6, f7, rfl⟩ := list_len8 f HFl.out
      have b3 := HFb.out f3 (by simp)
      have b5 := HFb.out f5 (by simp)
      have b7 := HFb.out f7 (by simp)
      obtain ⟨g, cp, he, hg1, hg2, _, _⟩ := own_form HO.out (by omega)
      injection he with he _ _
      subst he
      obtain ⟨ad, had, _, hcs⟩ := HRd.out.2 (by omega)
      injection had with had
      subst had
      have hadd : ∀ j : Nat, (⟨g, 0, none⟩ : Addr).add j = ⟨g, j, none⟩ := fun j => by unfold Addr.add; split <;> simp_all
      have c0 : wo.cell? ⟨g, 0, none⟩ = some (.int .i64 f0) := by have h := hcs 0 _ rfl; rwa [hadd] at h
      have c1 : wo.cell? ⟨g, 1, none⟩ = some (.int .i64 f1) := by have h := hcs 1 _ rfl; rwa [hadd] at h
      have c2 : wo.cell? ⟨g, 2, none⟩ = some (.int .i64 f2) := by have h := hcs 2 _ rfl; rwa [hadd] at h
      have c3 : wo.cell? ⟨g, 3, none⟩ = some (.int .i64 f3) := by have h := hcs 3 _ rfl; rwa [hadd] at h
      have c4 : wo.cell? ⟨g, 4, none⟩ = some (.int .i64 f4) := by have h := hcs 4 _ rfl; rwa [hadd] at h
      have c5 : wo.cell? ⟨g, 5, none⟩ = some (.int .i64 f5) := by have h := hcs 5 _ rfl; rwa [hadd] at h
      have c6 : wo.cell? ⟨g, 6, none⟩ = some (.int .i64 f6) := by have h := hcs 6 _ rfl; rwa [hadd] at h
      have c7 : wo.cell? ⟨g, 7, none⟩ = some (.int .i64 f7) := by have h := hcs 7 _ rfl; rwa [hadd] at h
      clear hcs hadd
      go_wp2_with fail
      have e3 : IntKind.i64.wrap (f3 - 1) = f3 - 1 := IntWalk.i64_in _ (by omega)
      have e5 : IntKind.i64.wrap (f5 - 1) = f5 - 1 := IntWalk.i64_in _ (by omega)
      have e7 : IntKind.i64.wrap (f7 - 1) = f7 - 1 := IntWalk.i64_in _ (by omega)
      go_region_held3 (fun W => W.cell? ⟨g, 0, none⟩ = some (.int .i64 f0) ∧ W.cell? ⟨g, 1, none⟩ = some (.int .i64 f1) ∧ W.cell? ⟨g, 2, none⟩ = some (.int .i64 f2) ∧ W.cell? ⟨g, 3, none⟩ = some (.int .i64 f3) ∧ W.cell? ⟨g, 4, none⟩ = some (.int .i64 f4) ∧ W.cell? ⟨g, 5, none⟩ = some (.int .i64 f5) ∧ W.cell? ⟨g, 6, none⟩ = some (.int .i64 f6) ∧ W.cell? ⟨g, 7, none⟩ = some (.int .i64 f7))
        (first | go_keep | exact ⟨c0, c1, c2, c3, c4, c5, c6, c7⟩)
        (first | fail)
      clear e3 e5 e7 c0 c1 c2 c3 c4 c5 c6 c7
      have HBwl := (Blk.new wo 24 #[.int .i64 f0, .int .i64 f1, .int .i64 f2, .int .i64 (f3 - 1), .int .i64 f4, .int .i64 (f5 - 1), .int .i64 f6, .int .i64 (f7 - 1), .int .u64 0]).drew
      have HLwl := (below_new wo (.cells #[.int .i64 f0, .int .i64 f1, .int .i64 f2, .int .i64 (f3 - 1), .int .i64 f4, .int .i64 (f5 - 1), .int .i64 f6, .int .i64 (f7 - 1), .int .u64 0] 24)).drew
      have hswl : (wo.alloc (.cells #[.int .i64 f0, .int .i64 f1, .int .i64 f2, .int .i64 (f3 - 1), .int .i64 f4, .int .i64 (f5 - 1), .int .i64 f6, .int .i64 (f7 - 1), .int .u64 0] 24)).drew.heap.size = wo.heap.size + 1 := by show (wo.alloc (.cells #[.int .i64 f0, .int .i64 f1, .int .i64 f2, .int .i64 (f3 - 1), .int .i64 f4, .int .i64 (f5 - 1), .int .i64 f6, .int .i64 (f7 - 1), .int .u64 0] 24)).heap.size = _; simp
      generalize (wo.alloc (.cells #[.int .i64 f0, .int .i64 f1, .int .i64 f2, .int .i64 (f3 - 1), .int .i64 f4, .int .i64 (f5 - 1), .int .i64 f6, .int .i64 (f7 - 1), .int .u64 0] 24)).drew = wl at HBwl HLwl hswl ⊢
      replace HBwl := Lib.hid HBwl
      replace HLwl := Lib.hid HLwl
      have hlwl : wo.heap.size < wl.heap.size := by omega
      replace hswl := Lib.hid hswl
      have hbl : w.heap.size + 1 ≤ wo.heap.size := hl
      have HBz1 := Lib.hid (HBz.out.below HLwl.out (by omega))
      have HB1 := Lib.hid (HB.out.trans (HLwl.out.mono (by omega)))
      have HR1 := Lib.hid (HR.out.below (HLwl.out.mono (by omega)))
      have HT0 : Hid (Blk wl wo.heap.size 24 #[.int .i64 f0, .int .i64 f1, .int .i64 f2, .int .i64 (f3 - 1), .int .i64 f4, .int .i64 (f5 - 1), .int .i64 f6, .int .i64 (f7 - 1), .int .u64 ((de8 (r.take 0) : Nat) : Int)]) := hide HBwl.out
      clear hswl HBwl HLwl
      go_wp2_with fail
      go_loopw [8] (fun i wr => ∃ j : Nat, j ≤ 8 ∧ j ≤ n ∧ i = .int .i64 j ∧ Blk wr wo.heap.size 24 #[.int .i64 f0, .int .i64 f1, .int .i64 f2, .int .i64 (f3 - 1), .int .i64 f4, .int .i64 (f5 - 1), .int .i64 f6, .int .i64 (f7 - 1), .int .u64 ((de8 (r.take j) : Nat) : Int)] ∧ Blk wr w.heap.size 24 #[.int .i64 0, .int .i64 0, .int .i64 0, .int .i64 0, .int .i64 0, .int .i64 0, .int .i64 0, .int .i64 0, .int .u64 0] ∧ Bytes wr w.heap.size A n r ∧ Below w.heap.size w wr) (fun i _ => 8 - (intOf i).toNat)
      case atStart => exact ⟨0, by omega, by omega, rfl, HT0.out, HBz1.out, HR1.out, HB1.out⟩
      case round =>
        obtain ⟨j, hj, hjn, rfl, hbt, hbz, hr, hbr⟩ := hrel
        obtain ⟨wq, rfl⟩ : ∃ wq : World, wq = wr := ⟨_, rfl⟩
        have HBt := Lib.hid hbt
        have HBz := Lib.hid hbz
        have HR := Lib.hid hr
        have HB := Lib.hid hbr
        clear hbt hbz hr hbr
        by_cases hj8 : j < 8
        · by_cases hjn2 : j < n
          · obtain ⟨ad, rfl, hab, hcx⟩ := HR.out.byte hjn2
            have HDN := Lib.hid (de8_next r j (by rw [HL.out]; exact hjn2))
            have hS : de8 (r.take j) < 72057594037927936 := by
              have h := de8_lt (r.take j)
              have h2 : (r.take j).length ≤ 7 := by simp; omega
              have h3 := Nat.pow_le_pow_right (show 0 < 256 by omega) h2
              have h4 : (256 : Nat) ^ 7 = 72057594037927936 := by decide
              omega
            have hx := UInt8.toNat_lt (r.getD j 0)
            obtain ⟨S, hSe⟩ : ∃ S, de8 (r.take j) = S := ⟨_, rfl⟩
            obtain ⟨x, hxe⟩ : ∃ x, (r.getD j 0).toNat = x := ⟨_, rfl⟩
            rw [hSe] at hS HDN HBt
            rw [hxe] at hx HDN hcx
            have c8 : wq.cell? ⟨wo.heap.size, 8, none⟩ = some (.int .u64 (S : Int)) := HBt.out.cell 8
            have f8 : wq.frozen? ⟨wo.heap.size, 8, none⟩ = false := HBt.out.frozen 8
            have ho := or8_form S x hS hx
            have hw1 : IntKind.u64.wrap ((S : Int) * 256) = (S : Int) * 256 := IntWalk.u64_in _ (by omega)
            have HSe := Lib.hid hSe
            have HXe := Lib.hid hxe
            clear hSe hxe
            go_wp2_with fail
            go_still_tail 10, (by kernel_rfl)
            change wpList _ _ _ _ _ wq.drew
            clear hw1 c8 f8
            have HBt2 := Lib.hid HBt.out.drew
            have HBz2 := Lib.hid HBz.out.drew
            have HR2 := Lib.hid HR.out.drew
            have HB2 := Lib.hid HB.out.drew
            generalize wq.drew = wd at *
            have c8 : wd.cell? ⟨wo.heap.size, 8, none⟩ = some (.int .u64 (S : Int)) := HBt2.out.cell 8
            have f8 : wd.frozen? ⟨wo.heap.size, 8, none⟩ = false := HBt2.out.frozen 8
            go_wp2_with fail
            have HBt3 : Hid (Blk (wd.setCell ⟨wo.heap.size, 8, none⟩ (.int .u64 ((S * 256 + x : Nat) : Int))) wo.heap.size 24 #[.int .i64 f0, .int .i64 f1, .int .i64 f2, .int .i64 (f3 - 1), .int .i64 f4, .int .i64 (f5 - 1), .int .i64 f6, .int .i64 (f7 - 1), .int .u64 ((S * 256 + x : Nat) : Int)]) := by
              have h := HBt2.out.set_ 8 (.int .u64 ((S * 256 + x : Nat) : Int))
              exact hide (by simpa using h)
            go_roundw
            case rel =>
              refine ⟨j + 1, by omega, by omega, by go_num, ?_, HBz2.out.far (by simp; omega) _, ?_, HB2.out.setCell (by simp; omega) _⟩
              · have e : de8 (r.take (j + 1)) = S * 256 + x := HDN.out
                rw [e]
                have h := HBt3.out
                rw [show ((S * 256 + x : Nat) : Int) = (S : Int) * 256 + (x : Int) by omega] at h ⊢
                exact h
              · exact HR2.out.keep fun p hp => World.cell?_of_block (w := wd) (Below.heap_setCell wd _ _ p.block (by simp; omega))
            case measure => simp [intOf]; omega
          · obtain rfl : j = n := by omega
            have hT : de8 (r.take j) < 18446744073709551616 := by
              have h := de8_lt (r.take j)
              have h2 : (r.take j).length ≤ 8 := by simp; omega
              have h3 := Nat.pow_le_pow_right (show 0 < 256 by omega) h2
              have h4 : (256 : Nat) ^ 8 = 18446744073709551616 := by decide
              omega
            have HTe : Hid (r.length = 8 → de8 (r.take j) = de8 r) := fun h => by rw [List.take_of_length_le (by have := HL.out; omega)]
            generalize de8 (r.take j) = T at *
            go_wp2_with
              (first
               | (refine wpList_load_blk rfl 24 (.tmp 7) rfl wo.heap.size rfl _ _ HBt.out _ Try.underlying24 rfl (by kernel_rfl) ?_)
               | (refine wpList_store_blk rfl 24 (.tmp 2) (.tmp 80) rfl w.heap.size #[.int .i64 f0, .int .i64 f1, .int .i64 f2, .int .i64 (f3 - 1), .int .i64 f4, .int .i64 (f5 - 1), .int .i64 f6, .int .i64 (f7 - 1), .int .u64 (T : Int)] rfl rfl _ _ HBz.out (by kernel_rfl) rfl (by simp [Value.oneCell']) ?_
                  intro w5 HBz5 hon5
                  have HZ5 := Lib.hid HBz5
                  have HB5 := Lib.hid (hon5.below HB.out (Nat.le_refl _))
                  clear HBz5 hon5))
            all_goals
              refine bodyPost_ret (v := .agg #[.int .i64 f0, .int .i64 f1, .int .i64 f2, .int .i64 (f3 - 1), .int .i64 f4, .int .i64 (f5 - 1), .int .i64 f6, .int .i64 (f7 - 1), .int .u64 (T : Int)]) (results_cell_row rfl _ _ w.heap.size 24 _ (0, 0) _ rfl HZ5.out Try.underlying24 rfl (by kernel_rfl)) rfl ?_
              exact ⟨mkM [f0, f1, f2, f3, f4, f5, f6, f7] T, T, rfl, rfl, hT, parse_end HInv.out T HTe.out, HB5.out⟩
        · obtain rfl : j = 8 := by omega
          have hT : de8 (r.take 8) < 18446744073709551616 := by
            have h := de8_lt (r.take 8)
            have h2 : (r.take 8).length ≤ 8 := by simp; omega
            have h3 := Nat.pow_le_pow_right (show 0 < 256 by omega) h2
            have h4 : (256 : Nat) ^ 8 = 18446744073709551616 := by decide
            omega
          have HTe : Hid (r.length = 8 → de8 (r.take 8) = de8 r) := fun h => by rw [List.take_of_length_le (by have := HL.out; omega)]
          generalize de8 (r.take 8) = T at *
          go_wp2_with
            (first
             | (refine wpList_load_blk rfl 24 (.tmp 7) rfl wo.heap.size rfl _ _ HBt.out _ Try.underlying24 rfl (by kernel_rfl) ?_)
             | (refine wpList_store_blk rfl 24 (.tmp 2) (.tmp 80) rfl w.heap.size #[.int .i64 f0, .int .i64 f1, .int .i64 f2, .int .i64 (f3 - 1), .int .i64 f4, .int .i64 (f5 - 1), .int .i64 f6, .int .i64 (f7 - 1), .int .u64 (T : Int)] rfl rfl _ _ HBz.out (by kernel_rfl) rfl (by simp [Value.oneCell']) ?_
                intro w5 HBz5 hon5
                have HZ5 := Lib.hid HBz5
                have HB5 := Lib.hid (hon5.below HB.out (Nat.le_refl _))
                clear HBz5 hon5))
          all_goals
            refine bodyPost_ret (v := .agg #[.int .i64 f0, .int .i64 f1, .int .i64 f2, .int .i64 (f3 - 1), .int .i64 f4, .int .i64 (f5 - 1), .int .i64 f6, .int .i64 (f7 - 1), .int .u64 (T : Int)]) (results_cell_row rfl _ _ w.heap.size 24 _ (0, 0) _ rfl HZ5.out Try.underlying24 rfl (by kernel_rfl)) rfl ?_
            exact ⟨mkM [f0, f1, f2, f3, f4, f5, f6, f7] T, T, rfl, rfl, hT, parse_end HInv.out T HTe.out, HB5.out⟩
end Go.Proofs.Ythlhphifibldnaa
