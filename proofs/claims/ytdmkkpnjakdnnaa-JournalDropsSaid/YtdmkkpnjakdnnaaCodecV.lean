/-
  Unframe of the reference of chapter 3, walked.
-/
import Derived.Test.YtdmkkpnjakdnnaaCodecU
import Derived.Deep.RegionWith
namespace Go.Proofs.Ytdmkkpnjakdnnaa
open Go.RowKit

theorem Reads.bfront {w : World} {B n m : Nat} {A : Option Addr} {l : List UInt8} (h : Bytes w B A n l) (hm : m ≤ n) : Bytes w B A m (l.take m) := by
  have := Reads.front h hm
  rwa [← List.map_take] at this
theorem frame_eq (l bd tl : List UInt8) (N K : Nat) (hp : putN N = l.take K) (hb : (l.drop K).take N = bd) (ht : (l.drop (K + N)).take 4 = tl) (hl : K + N + 4 ≤ l.length) :
    frameN bd = l.take (K + N + 4) ↔ de4 tl = sumN bd := by
  have hbl : bd.length = N := by rw [← hb, List.length_take, List.length_drop]; omega
  have htl : tl.length = 4 := by rw [← ht, List.length_take, List.length_drop]; omega
  have e : l.take (K + N + 4) = putN N ++ bd ++ tl := by
    rw [List.take_add, List.take_add, hp, hb, ht]
  rw [e, frameN, hbl, be4_de4 tl htl _ (sumN_lt bd)]
  constructor
  · intro h
    exact (List.append_cancel_left h).symm
  · intro h
    rw [h]

set_option maxRecDepth 100000 in
set_option maxHeartbeats 400000 in
theorem runf_any (A : Option Addr) (n c : Nat) (l body : List UInt8) (k e : Nat) (w : World) (hr : Bytes w w.heap.size A n l) (hn : n ≤ 10000000) (hc : n ≤ c) (hc2 : c ≤ maxLen) (hT : unfG l = (body, k, e)) :
    Calls Try.prog 52 #[.slice A n c] w fun e' w' => ∃ v, e' = .returned (.tuple #[v, .int .i64 (k : Int), .int .i64 (e : Int)]) ∧ OwnB w' w.heap.size v body ∧ Below w.heap.size w w' := by
  have HL := Lib.hid hr.blen
  have HR := Lib.hid hr
  unfold maxLen at hc2
  unfold unfG at hT
  rcases getN_cases l with ⟨N, K, hg, hk1, hk9, hkl, hN, hp1, hp2⟩ | ⟨E, hg, hE, hp1⟩
  · rw [hg] at hT
    have hkn : K ≤ n := by rw [← hr.blen]; exact hkl
    have HG := Lib.hid hg
    have HP := Lib.hid hp1
    clear hr hg hkl hp1 hp2
    simp only [ne_eq, not_true_eq_false, if_false] at hT
    by_cases h1 : 65536 < N
    · rw [if_pos h1] at hT
      simp only [Prod.mk.injEq] at hT
      obtain ⟨rfl, rfl, rfl⟩ := hT
      go_enter Try.func52, Try.ntmps52
      go_wp2_with fail
      with_reducible refine (rget_any N K 0 _ _ _ _ _ _ HR.out HG.out).mono ?_
      rintro e w' ⟨rfl, rfl⟩
      go_wp2_with fail
      go_ret3
      exact ⟨_, rfl, OwnB.nil _ _, Below.refl _ _⟩
    · rw [if_neg h1] at hT
      by_cases h2 : n < K + N + 4
      · rw [if_pos (by rw [HL.out]; exact h2)] at hT
        simp only [Prod.mk.injEq] at hT
        obtain ⟨rfl, rfl, rfl⟩ := hT
        go_enter Try.func52, Try.ntmps52
        go_wp2_with fail
        with_reducible refine (rget_any N K 0 _ _ _ _ _ _ HR.out HG.out).mono ?_
        rintro e w' ⟨rfl, rfl⟩
        go_wp2_with fail
        go_ret3
        exact ⟨_, rfl, OwnB.nil _ _, Below.refl _ _⟩
      · rw [if_neg (by rw [HL.out]; exact h2)] at hT
        have HFE := Lib.hid (frame_eq l _ _ N K HP.out rfl rfl (by rw [HL.out]; omega))
        have HBody := Lib.hid (HR.out.bpart (k := K) (d := N) (by omega))
        have HBL : Hid (((l.drop K).take N).length = N) := by show _ = _; rw [List.length_take, List.length_drop, HL.out]; omega
        generalize (l.drop (K + N)).take 4 = tl at *
        generalize (l.drop K).take N = bd at *
        have HAll := Lib.hid (HR.out.bfront (m := K + N + 4) (by omega))
        obtain ⟨b, hb⟩ : ∃ b, decide (frameN bd = l.take (K + N + 4)) = b := ⟨_, rfl⟩
        have HBd := Lib.hid hb
        have HT : Hid ((body, k, e) = if b = true then (bd, K + N + 4, 0) else ([], 0, 6)) := by
          show _ = _
          rw [← hT, ← hb]
          by_cases h : frameN bd = l.take (K + N + 4)
          · have h2 := HFE.out.1 h
            simp [h, h2]
          · have h2 : ¬ de4 tl = sumN bd := fun h' => h (HFE.out.2 h')
            simp [h, h2]
        clear hT hb
        generalize l.take (K + N + 4) = fr at *
        go_enter Try.func52, Try.ntmps52
        go_wp2_with fail
        with_reducible refine (rget_any N K 0 _ _ _ _ _ _ HR.out HG.out).mono ?_
        rintro e w' ⟨rfl, rfl⟩
        go_wp2_with
          (at_builtin
           go_must (refine wpList_app _ ei_byte rfl (.const (.slice none 0 0)) (.tmp 32) rfl w.heap.size (.slice none 0 0) 0 [] rfl (World.ownsRow_nil _ _ _ _) w.heap.size (A.map (fun x => x.add K)) (K + N - K) (c - K) (bd.map B8) rfl (by rw [Nat.add_sub_cancel_left]; exact HBody.out) (oneCell_B8 bd) (by simp only [maxLen]; omega) (by omega) (Nat.le_refl _) ?_)
           intro v2 w2 hown2 hg2 hbw2 hat2
           have HO2 : Hid (OwnB w2 w.heap.size v2 bd) := by
             simp only [Nat.zero_add, List.nil_append] at hown2
             exact OwnB.mk' hown2 (by rw [HBL.out]; omega) rfl
           have HB2 := Lib.hid hbw2
           have HAll2 := Lib.hid (HAll.out.now hbw2)
           clear hown2 hg2 hbw2 hat2)
        obtain ⟨A2, c2, rfl, hc21, hc22, hrd⟩ := HO2.out.open_
        have HRD := Lib.hid hrd
        clear hrd
        rw [HBL.out] at hc21 ⊢
        have HRD2 : Hid (Bytes w2 w2.heap.size A2 N bd) := by have h := HRD.out; rwa [HBL.out] at h
        have g1 : (0 : Int) ≤ (K : Int) + (N : Int) + 4 := by omega
        have g2 : ((K : Int) + (N : Int) + 4).toNat = K + N + 4 := by omega
        have g3 : (K : Int) + (N : Int) + 4 ≤ (c : Int) := by omega
        have f1 : -9223372036854775808 ≤ (K : Int) + (N : Int) ∧ (K : Int) + (N : Int) ≤ 9223372036854775807 := by omega
        have f2 : -9223372036854775808 ≤ (K : Int) + (N : Int) + 4 ∧ (K : Int) + (N : Int) + 4 ≤ 9223372036854775807 := by omega
        have e1 := IntWalk.i64_in _ f1
        have e2 := IntWalk.i64_in _ f2
        clear f1 f2
        go_region_with (first
          | (go_at_call 38
             with_reducible refine (rframe_any _ _ _ _ _ (HRD2.out.drewN _) (by omega)).mono ?_
             rintro e' w3 ⟨v3, rfl, hown3, hb3⟩
             obtain ⟨A3, c3, rfl, hc31, hc32, hr3⟩ := hown3.open_
             have HR3 := Lib.hid hr3
             have HAll3 := Lib.hid ((HAll2.out.drewN _).now hb3)
             have HB3 := Lib.hid hb3
             clear hown3 hb3 hr3)
          | (go_at_call 54
             with_reducible refine (sameb_any b _ _ _ _ _ _ _ _ _ _ _ HR3.out HAll3.out HBd.out).mono ?_
             rintro e' w4 ⟨rfl, rfl⟩))
        have HB33 : Hid (Below w.heap.size w w3) := HB2.out.trans ((below_drewN (Below.refl _ _) _).trans (HB3.out.mono HB2.out.size))
        have HO33 : Hid (OwnB w3 w.heap.size (.slice A2 N c2) bd) := by
          have h := own_below HO2.out ((below_drewN (Below.refl _ _) _).trans HB3.out) (Nat.le_refl _)
          rw [HBL.out] at h
          exact hide (OwnB.mk' h HBL.out.symm rfl)
        clear e1 e2
        cases b with
        | true =>
          have HT2 := Lib.hid HT.out
          rw [if_pos rfl] at HT2
          go_wp2_with fail
          go_ret3
          have hT := HT2.out
          simp only [Prod.mk.injEq] at hT
          obtain ⟨rfl, rfl, rfl⟩ := hT
          exact ⟨_, by simp, HO33.out, HB33.out⟩
        | false =>
          have HT2 := Lib.hid HT.out
          rw [if_neg (by simp)] at HT2
          go_wp2_with fail
          go_ret3
          have hT := HT2.out
          simp only [Prod.mk.injEq] at hT
          obtain ⟨rfl, rfl, rfl⟩ := hT
          exact ⟨_, rfl, OwnB.nil _ _, HB33.out⟩
  · rw [hg] at hT
    have HG := Lib.hid hg
    have hb : ((E : Int) != 0) = true := by rw [bne_iff_ne]; omega
    clear hr hg hp1
    rw [if_pos hE] at hT
    simp only [Prod.mk.injEq] at hT
    obtain ⟨rfl, rfl, rfl⟩ := hT
    go_enter Try.func52, Try.ntmps52
    go_wp2_with fail
    with_reducible refine (rget_any 0 0 E _ _ _ _ _ _ HR.out HG.out).mono ?_
    rintro e w' ⟨rfl, rfl⟩
    go_wp2_with fail
    go_ret3
    exact ⟨_, rfl, OwnB.nil _ _, Below.refl _ _⟩
end Go.Proofs.Ytdmkkpnjakdnnaa
