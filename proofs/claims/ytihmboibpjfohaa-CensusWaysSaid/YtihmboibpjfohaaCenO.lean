/-
  Value and Max of flow, walked.
-/
import Derived.Test.YtihmboibpjfohaaCenM
import Derived.Test.YtihmboibpjfohaaEgrN
namespace Go.Proofs.Ytihmboibpjfohaa
open Go.RowKit

set_option maxRecDepth 100000 in
set_option maxHeartbeats 4000000 in
theorem value_any (A F : Option Addr) (n c c2 : Nat) (es : List Ed) (f : List Int) (s : Int) (w : World) (hr : Strs Ed.cells 4 w w.heap.size A n es) (hl : es.length = n) (hc : n ≤ c) (hc2 : c ≤ maxLen) (hf : Ints w w.heap.size F n f) (hd : n ≤ c2) (hd2 : c2 ≤ maxLen) (hn : n ≤ 1000)
    (hb : ∀ i, i < es.length → 0 ≤ f.getD i 0 ∧ f.getD i 0 ≤ 1000000) :
    Calls Try.prog 46 #[.slice A n c, .slice F n c2, .int .i64 s] w fun e w' => e = .returned (.int .i64 (netN es f s)) ∧ w = w' := by
  have HR := Lib.hid hr
  have HF := Lib.hid hf
  have HL := Lib.hid hl
  have hfl := hf.ilen
  have HSn : Hid (∀ k, k < n → netN (es.take (k + 1)) (f.take (k + 1)) s = netN (es.take k) (f.take k) s + (if (es.getD k ed0).fr = s then f.getD k 0 else 0) - (if (es.getD k ed0).tt = s then f.getD k 0 else 0)) := fun k hk => net_snoc (by omega) (by omega) s
  have HLe : Hid (∀ k, k ≤ n → -(1000000 * (k : Int)) ≤ netN (es.take k) (f.take k) s ∧ netN (es.take k) (f.take k) s ≤ 1000000 * (k : Int)) := fun k hk => net_take_le (by omega) hb k (by omega) s
  have HBd : Hid (∀ k, k < n → 0 ≤ f.getD k 0 ∧ f.getD k 0 ≤ 1000000) := fun k hk => hb k (by omega)
  have HEnd : Hid (netN (es.take n) (f.take n) s = netN es f s) := hide (by rw [List.take_of_length_le (by omega), List.take_of_length_le (by omega)])
  have H0 : Hid (netN (es.take 0) (f.take 0) s = 0) := hide (by simp [netN])
  have hmn : (if (n : Int) < (n : Int) then (n : Int) else (n : Int)) = (n : Int) := by simp
  clear hr hf hl hb hfl
  go_enter Try.func46, Try.ntmps46
  go_wp2_with fail
  clear hmn
  go_loop [7, 14] (fun v i => ∃ k : Nat, k ≤ n ∧ i = .int .i64 k ∧ v = .int .i64 (netN (es.take k) (f.take k) s)) (fun _ i => n - (intOf i).toNat)
  case atStart => exact ⟨0, by omega, rfl, by rw [H0.out]⟩
  case round =>
    obtain ⟨k, hk, rfl, rfl⟩ := hrel
    by_cases hlt : k < n
    · obtain ⟨ad, rfl, hab, hcl⟩ := strs_at HR.out (fun _ => rfl) HL.out hlt ed0
      obtain ⟨af, rfl, hafb, hfc⟩ := HF.out.int hlt
      have HS1 := Lib.hid (HSn.out k hlt)
      have hle := HLe.out k hk
      have hbd := HBd.out k hlt
      obtain ⟨⟨ei, fr, tt, cst⟩, hq⟩ : ∃ q, es.getD k ed0 = q := ⟨_, rfl⟩
      rw [hq] at hcl HS1
      simp only at HS1
      generalize f.getD k 0 = x at *
      obtain ⟨T1, hT1⟩ : ∃ x, netN (es.take (k + 1)) (f.take (k + 1)) s = x := ⟨_, rfl⟩
      rw [hT1] at HS1
      have HN1 := Lib.hid hT1
      clear hT1
      generalize netN (es.take k) (f.take k) s = T at *
      have p1 : w.cell? ⟨(ad.add (k * 4)).block, (ad.add (k * 4)).off + 1, none⟩ = some (.int .i64 fr) := hcl 1 _ rfl
      have p2 : w.cell? ⟨(ad.add (k * 4)).block, (ad.add (k * 4)).off + 2, none⟩ = some (.int .i64 tt) := hcl 2 _ rfl
      clear hcl hq
      by_cases h1 : fr = s
      · have d1 : (fr == s) = true := beq_iff_eq.2 h1
        have H1 := Lib.hid h1
        clear h1
        by_cases h2 : tt = s
        · have d2 : (tt == s) = true := beq_iff_eq.2 h2
          have HT : Hid (T1 = T) := by show _ = _; rw [HS1.out, if_pos H1.out, if_pos h2]; omega
          clear h2
          go_wp2_with fail
          go_round
          case rel => exact ⟨k + 1, by omega, by go_num, by rw [HN1.out, HT.out]⟩
          case measure => simp [intOf]; omega
        · have d2 : (tt == s) = false := beq_eq_false_iff_ne.2 h2
          have HT : Hid (T1 = T + x) := by show _ = _; rw [HS1.out, if_pos H1.out, if_neg h2, Int.sub_zero]
          clear h2
          go_wp2_with fail
          go_round
          case rel => exact ⟨k + 1, by omega, by go_num, by rw [HN1.out, HT.out]⟩
          case measure => simp [intOf]; omega
      · have d1 : (fr == s) = false := beq_eq_false_iff_ne.2 h1
        by_cases h2 : tt = s
        · have d2 : (tt == s) = true := beq_iff_eq.2 h2
          have HT : Hid (T1 = T - x) := by show _ = _; rw [HS1.out, if_neg h1, if_pos h2, Int.add_zero]
          clear h2
          go_wp2_with fail
          go_round
          case rel => exact ⟨k + 1, by omega, by go_num, by rw [HN1.out, HT.out]⟩
          case measure => simp [intOf]; omega
        · have d2 : (tt == s) = false := beq_eq_false_iff_ne.2 h2
          have HT : Hid (T1 = T) := by show _ = _; rw [HS1.out, if_neg h1, if_neg h2, Int.add_zero, Int.sub_zero]
          clear h1 h2
          go_wp2_with fail
          go_round
          case rel => exact ⟨k + 1, by omega, by go_num, by rw [HN1.out, HT.out]⟩
          case measure => simp [intOf]; omega
    · obtain rfl : k = n := by omega
      go_wp2_with fail
      go_ret
      exact ⟨ret_int HEnd.out, rfl⟩

def MaxR (es : List Ed) (s t : Int) (w : World) (e : Ending) (w' : World) : Prop := ∃ M : Int, MaxV es s t M ∧ e = .returned (.int .i64 M) ∧ Below w.heap.size w w'
set_option maxRecDepth 100000 in
theorem max_any (A : Option Addr) (n c : Nat) (es : List Ed) (s t : Int) (w : World) (hr : Strs Ed.cells 4 w w.heap.size A n es) (hl : es.length = n) (hc : n ≤ c) (hc2 : c ≤ maxLen)
    (hn : n ≤ 1000) (hst : s ≠ t) (hs : 0 ≤ s ∧ s ≤ 1000000) (ht : 0 ≤ t ∧ t ≤ 1000000) (he : EdOK es) :
    Calls Try.prog 36 #[.slice A n c, .int .i64 s, .int .i64 t] w (MaxR es s t w) := by
  have HR := Lib.hid hr
  have HL := Lib.hid hl
  have HE : Hid (∀ e ∈ es, (0 ≤ e.fr ∧ e.fr ≤ 1000000) ∧ (0 ≤ e.tt ∧ e.tt ≤ 1000000) ∧ 0 ≤ e.cst ∧ e.cst ≤ 1000000) := he
  have HC := Lib.hid (find_any A n c es s t w hr hl hc hc2 hn hst hs ht he)
  have HFin : Hid (∀ (M : Int) (w' : World), MaxV es s t M → Below w.heap.size w w' → MaxR es s t w (.returned (.int .i64 M)) w') := fun M w' h1 h2 => ⟨M, h1, rfl, h2⟩
  generalize MaxR es s t w = RR at *
  clear hr hl he hst
  go_enter Try.func36, Try.ntmps36
  go_wp2_with fail
  with_reducible refine HC.out.mono ?_
  rintro e w1 ⟨F, cap, f, R, rfl, h1, h2, hf, hb, hm⟩
  have HM := Lib.hid hm
  have HF := Lib.hid hf
  have HB := Lib.hid hb
  clear hm hf hb
  go_wp2_with fail
  with_reducible refine (value_any A F n c cap es f s w1 (HR.out.now HB.out) HL.out hc hc2 HF.out h1 h2 hn (fun i hi => ⟨(HM.out.flow.at_ hi).1, Int.le_trans (HM.out.flow.at_ hi).2 (HE.out _ (ed_mem hi)).2.2.2⟩)).mono ?_
  rintro e w2 ⟨rfl, rfl⟩
  obtain ⟨T, hT⟩ : ∃ x, netN es f s = x := ⟨_, rfl⟩
  have HMx : Hid (MaxV es s t T) := by
    have h := HM.out
    rw [hT] at h
    exact hide ⟨f, R, h⟩
  rw [hT]
  clear hT
  go_wp2_with fail
  exact HFin.out _ _ HMx.out HB.out
end Go.Proofs.Ytihmboibpjfohaa
