/-
  Chapter 55: Peak of the program and of its reference, walked.
-/
import Derived.Test.YtihmboibpjfohaaCenC
import Derived.Test.YtihmboibpjfohaaCenP
namespace Go.Proofs.Ytihmboibpjfohaa
open Go.RowKit

set_option maxRecDepth 100000 in
set_option maxHeartbeats 2000000 in
theorem peak_any (v : Value) (l : List Cr) (w : World) (hv : StrV Cr.cells 4 w w.heap.size v l) (hlen : l.length ≤ 2000) (hin : ∀ c ∈ l, inC c = true) :
    Calls Try.prog 17 #[v] w fun e w' => e = .returned (.int .i64 (ppC l l.length)) ∧ Below w.heap.size w w' := by
  obtain ⟨A, n, c, rfl, HN, hc1, hc2, hr⟩ := hv.nam
  have HR := Lib.hid hr
  have hn : n ≤ 2000 := by rw [← HN.out]; exact hlen
  have HIn := Lib.hid hin
  have HBn : Hid (∀ k : Nat, -(1000 * (k : Int)) ≤ sumF chC (l.take k) ∧ sumF chC (l.take k) ≤ 1000 * (k : Int)) := fun k => sumF_take _ l k fun c hc => chC_bound (HIn.out c hc)
  have HZ : Hid (sumF chC (l.take 0) = 0) := by show _ = _; simp [sumF]
  have HSn : Hid (∀ k, k < n → sumF chC (l.take (k + 1)) = sumF chC (l.take k) + chC (l.getD k cr0)) := fun k hk => sumF_snoc _ (by rw [HN.out]; exact hk)
  have HPs : Hid (∀ k, ppC l (k + 1) = if lastC l k = true ∧ ppC l k < sumF chC (l.take (k + 1)) then sumF chC (l.take (k + 1)) else ppC l k) := fun k => rfl
  have HP0 : Hid (ppC l 0 = 0) := rfl
  have HLa : Hid (∀ k, lastC l k = decide (k + 1 = n ∨ (l.getD (k + 1) cr0).att ≠ (l.getD k cr0).att)) := fun k => by rw [← HN.out]; rfl
  obtain ⟨sm, hsm⟩ : ∃ sm : Nat → Int, (fun k => sumF chC (l.take k)) = sm := ⟨_, rfl⟩
  have hsm2 : ∀ k, sumF chC (l.take k) = sm k := fun k => by rw [← hsm]
  simp only [hsm2] at HBn HZ HSn HPs
  clear hsm hsm2
  rw [HN.out]
  generalize ppC l = pp at *
  generalize lastC l = la at *
  clear hv hr hin hlen
  go_enter Try.func17, Try.ntmps17
  go_wp2_with fail
  go_loopw [3, 4, 10] (fun on pk i wr => ∃ k : Nat, k ≤ n ∧ i = .int .i64 k ∧ on = .int .i64 (sm k) ∧ pk = .int .i64 (pp k) ∧ Below w.heap.size w wr) (fun _ _ i _ => n - (intOf i).toNat)
  case atStart => exact ⟨0, by omega, rfl, by rw [HZ.out], by rw [HP0.out], Below.refl _ _⟩
  case round =>
    obtain ⟨k, hk, rfl, rfl, rfl, hbr⟩ := hrel
    obtain ⟨wo, rfl⟩ : ∃ wo : World, wo = wr := ⟨_, rfl⟩
    have HB := Lib.hid hbr
    have hsz := HB.out.size
    clear hbr
    have hbk := HBn.out k
    by_cases hlt : k < n
    · obtain ⟨ad, rfl, hadb, hcl⟩ := strs_at (HR.out.below HB.out) (fun _ => rfl) HN.out hlt cr0
      have hadw : ad.block < w.heap.size := hadb
      have hsn := HSn.out k hlt
      have hps := HPs.out k
      have hib := HIn.out _ (cr_mem (l := l) (k := k) (by rw [HN.out]; exact hlt))
      have hgb := chC_bound hib
      have HLk : Hid (la k = decide (k + 1 = n ∨ (l.getD (k + 1) cr0).att ≠ (l.getD k cr0).att)) := HLa.out k
      have HR1 : Hid (k + 1 < n → wo.cell? ⟨(ad.add ((k + 1) * 4)).block, (ad.add ((k + 1) * 4)).off + 3, none⟩ = some (.int .i64 (l.getD (k + 1) cr0).att)) := fun h => by
        obtain ⟨ad2, hin2, _, hcs⟩ := strs_at (HR.out.below HB.out) (fun _ => rfl) HN.out h cr0
        injection hin2 with hin2
        subst hin2
        exact hcs 3 _ rfl
      generalize (l.getD (k + 1) cr0).att = a1 at *
      obtain ⟨⟨kd, pl, nm, at_⟩, hq⟩ : ∃ q, l.getD k cr0 = q := ⟨_, rfl⟩
      rw [hq] at hcl hsn hib hgb HLk
      have hnm := of_decide_eq_true hib
      simp only at hnm HLk
      obtain ⟨S, hS⟩ : ∃ x, sm k = x := ⟨_, rfl⟩
      obtain ⟨S2, hS2⟩ : ∃ x, sm (k + 1) = x := ⟨_, rfl⟩
      obtain ⟨P, hP⟩ : ∃ x, pp k = x := ⟨_, rfl⟩
      rw [hS, hS2] at hsn
      rw [hS2, hP] at hps
      rw [hS] at hbk ⊢
      rw [hP]
      have HCh : Hid (∀ W, Calls Try.prog 31 #[.agg #[.int .i64 kd, .int .i64 pl, .int .i64 nm, .int .i64 at_]] W fun e w' => e = .returned (.int .i64 (chC ⟨kd, pl, nm, at_⟩)) ∧ Below W.heap.size W w') := fun W => change_any _ _ _ _ W (by omega)
      generalize chC ⟨kd, pl, nm, at_⟩ = ch at *
      have hwr : IntKind.i64.wrap (S + ch) = S2 := by rw [← hsn]; exact IntWalk.i64_in _ (by omega)
      have hwr2 : S + ch = S2 := hsn.symm
      have HS2 := Lib.hid hS2
      have HCl : Hid (∀ j u, ([.int .i64 kd, .int .i64 pl, .int .i64 nm, .int .i64 at_] : List Value)[j]? = some u → wo.cell? ((ad.add (k * 4)).add j) = some u) := hcl
      have HCv : Hid (∀ (W : World), Below wo.heap.size wo W → ∀ j u, ([.int .i64 kd, .int .i64 pl, .int .i64 nm, .int .i64 at_] : List Value)[j]? = some u → W.cell? ((ad.add (k * 4)).add j) = some u) := fun W hW j u hu => (hW.cell (p := (ad.add (k * 4)).add j) (by rw [block_of_add, block_of_add]; omega)).trans (HCl.out j u hu)
      clear hq hS hib hcl hP hS2 hsn
      go_wp2_with (first
        | (refine wpList_load_at 24 (.tmp 13) rfl rfl (ad.add (k * 4)) rfl [.int .i64 kd, .int .i64 pl, .int .i64 nm, .int .i64 at_] (HCv.out _ (Below.refl _ _)) _ Try.underlying24 rfl (by kernel_rfl) ?_)
        | (refine wpList_store_blk rfl 24 (.tmp 6) (.tmp 14) rfl wo.heap.size #[.int .i64 kd, .int .i64 pl, .int .i64 nm, .int .i64 at_] rfl rfl _ _ (Blk.new wo 24 #[.int .i64 0, .int .i64 0, .int .i64 0, .int .i64 0]) (by kernel_rfl) rfl (by simp [Value.oneCell']) ?_
           intro w2 hx2 hon2
           have HX2 := Lib.hid hx2
           have hb2 := hon2.below (below_new wo (.cells #[.int .i64 0, .int .i64 0, .int .i64 0, .int .i64 0] 24)) (Nat.le_refl _)
           have hs2 : wo.heap.size < w2.heap.size := hx2.lt
           have HQ2 := Lib.hid hb2
           clear hx2 hon2 hb2)
        | (refine wpList_load_g 24 (.tmp 6) rfl rfl wo.heap.size rfl _ _ HX2.out _ Try.underlying24 rfl (by kernel_rfl) ?_))
      with_reducible refine (HCh.out _).mono ?_
      rintro e w5 ⟨rfl, hb5⟩
      have HX5 := Lib.hid (HX2.out.below hb5 hs2)
      have HQ5 := Lib.hid (HQ2.out.trans (hb5.mono (Nat.le_of_lt hs2)))
      clear hb5
      have c3 : w5.cell? ⟨wo.heap.size, 3, none⟩ = some (.int .i64 at_) := HX5.out.cell 3
      obtain ⟨n1, hn1⟩ : ∃ n1, n - 1 = n1 := ⟨_, rfl⟩
      have hnn : (n : Int) - 1 = (n1 : Int) := by omega
      go_wp2_with fail
      go_cut [7] (fun s wx => s = .bool (la k) ∧ Below wo.heap.size wo wx)
      case first =>
        by_cases hlast : k = n1
        · subst hlast
          have e1 : ((k : Int) == (k : Int)) = true := beq_self_eq_true _
          have HLt : Hid (la k = true) := by show _ = _; rw [HLk.out]; exact decide_eq_true (.inl (by omega))
          clear hnn
          have hnn : (n : Int) - 1 = (k : Int) := by omega
          go_quiet (fail)
          go_wp2_with fail
          go_meet
          exact ⟨by rw [HLt.out], below_drewN HQ5.out _⟩
        · have e1 : ((k : Int) == (n1 : Int)) = false := beq_eq_false_iff_ne.2 (by omega)
          have hkn : k + 1 < n := by omega
          have HLt : Hid (la k = (a1 != at_)) := by
            show _ = _
            rw [HLk.out]
            by_cases h : a1 = at_
            · rw [decide_eq_false (fun h2 => h2.elim (fun h3 => by omega) fun h3 => h3 h)]
              simp [h]
            · rw [decide_eq_true (.inr h)]
              simp [h]
          have hj : (k : Int) + 1 = ((k + 1 : Nat) : Int) := by omega
          have hwj : IntKind.i64.wrap ((k + 1 : Nat) : Int) = ((k + 1 : Nat) : Int) := IntWalk.i64_in _ (by omega)
          have cp : w5.cell? ⟨(ad.add ((k + 1) * 4)).block, (ad.add ((k + 1) * 4)).off + 3, none⟩ = some (.int .i64 a1) := (HQ5.out.cell (by rw [block_of_add]; omega)).trans (HR1.out hkn)
          obtain ⟨k1, hk1⟩ : ∃ k1, k + 1 = k1 := ⟨_, rfl⟩
          rw [hk1] at cp hj hwj hkn
          clear hk1
          go_quiet (fail)
          clear hwj
          go_wp2_with fail
          go_meet
          exact ⟨by rw [HLt.out], below_drewN HQ5.out _⟩
      obtain ⟨rfl, hcut⟩ := hcut
      have HBc := Lib.hid (HB.out.trans (hcut.mono hsz))
      clear hcut c3 hwr hnn hwr2
      obtain ⟨b, hb⟩ : ∃ b, la k = b := ⟨_, rfl⟩
      rw [hb] at hps ⊢
      have HPs2 := Lib.hid hps
      clear hps hb
      cases b with
      | false =>
        go_wp2_with fail
        go_roundw
        case rel => exact ⟨k + 1, by omega, by go_num, by rw [HS2.out], by rw [HPs2.out, if_neg (by simp)], HBc.out⟩
        case measure => simp [intOf]; omega
      | true =>
        by_cases h2 : P < S2
        · have d2 : decide (S2 > P) = true := decide_eq_true h2
          go_wp2_with fail
          go_roundw
          case rel => exact ⟨k + 1, by omega, by go_num, by rw [HS2.out], by rw [HPs2.out, if_pos ⟨rfl, h2⟩], HBc.out⟩
          case measure => simp [intOf]; omega
        · have d2 : decide (S2 > P) = false := decide_eq_false h2
          go_wp2_with fail
          go_roundw
          case rel => exact ⟨k + 1, by omega, by go_num, by rw [HS2.out], by rw [HPs2.out, if_neg (by simp [h2])], HBc.out⟩
          case measure => simp [intOf]; omega
    · obtain rfl : k = n := by omega
      go_wp2_with fail
      go_ret
      exact ⟨rfl, HB.out⟩

set_option maxRecDepth 100000 in
set_option maxHeartbeats 2000000 in
theorem rPeak_any (v : Value) (l : List Cr) (w : World) (hv : StrV Cr.cells 4 w w.heap.size v l) (hlen : l.length ≤ 2000) (hin : ∀ c ∈ l, inC c = true) :
    Calls Try.prog 18 #[v] w fun e w' => e = .returned (.int .i64 (pkC l l.length)) ∧ Below w.heap.size w w' := by
  obtain ⟨A, n, c, rfl, HN, hc1, hc2, hr⟩ := hv.nam
  have HR := Lib.hid hr
  have hn : n ≤ 2000 := by rw [← HN.out]; exact hlen
  have HOn : Hid (∀ (t : Int) (W : World), Strs Cr.cells 4 W W.heap.size A n l → Calls Try.prog 16 #[.slice A n c, .int .i64 t] W fun e w' => e = .returned (.int .i64 (onC l t)) ∧ Below W.heap.size W w') := fun t W h => rOn_any _ l t W (strV_of h HN.out hc1 hc2) hlen hin
  have HPs : Hid (∀ k, pkC l (k + 1) = if pkC l k < onC l (l.getD k cr0).att then onC l (l.getD k cr0).att else pkC l k) := fun k => rfl
  have HP0 : Hid (pkC l 0 = 0) := rfl
  rw [HN.out]
  generalize pkC l = pk at *
  generalize onC l = onl at *
  clear hv hr hin hlen
  go_enter Try.func18, Try.ntmps18
  go_wp2_with fail
  go_loopw [3, 4] (fun pv i wr => ∃ k : Nat, k ≤ n ∧ i = .int .i64 k ∧ pv = .int .i64 (pk k) ∧ Below w.heap.size w wr) (fun _ i _ => n - (intOf i).toNat)
  case atStart => exact ⟨0, by omega, rfl, by rw [HP0.out], Below.refl _ _⟩
  case round =>
    obtain ⟨k, hk, rfl, rfl, hbr⟩ := hrel
    obtain ⟨wo, rfl⟩ : ∃ wo : World, wo = wr := ⟨_, rfl⟩
    have HB := Lib.hid hbr
    have hsz := HB.out.size
    have HRo := Lib.hid (HR.out.now hbr)
    clear hbr
    by_cases hlt : k < n
    · obtain ⟨ad, rfl, hadb, hcl⟩ := strs_at HRo.out (fun _ => rfl) HN.out hlt cr0
      have hps := HPs.out k
      obtain ⟨⟨kd, pl, nm, at_⟩, hq⟩ : ∃ q, l.getD k cr0 = q := ⟨_, rfl⟩
      rw [hq] at hcl hps
      simp only at hps
      have cp : wo.cell? ⟨(ad.add (k * 4)).block, (ad.add (k * 4)).off + 3, none⟩ = some (.int .i64 at_) := hcl 3 _ rfl
      obtain ⟨P, hP⟩ : ∃ x, pk k = x := ⟨_, rfl⟩
      have HO := Lib.hid (HOn.out at_ wo HRo.out)
      generalize onl at_ = O at *
      rw [hP] at hps ⊢
      have HPs2 := Lib.hid hps
      clear hcl hq hP hps
      go_wp2_with fail
      with_reducible refine HO.out.mono ?_
      rintro e w2 ⟨rfl, hb2⟩
      have HB2 := Lib.hid (HB.out.trans (hb2.mono hsz))
      clear hb2 cp
      by_cases h2 : P < O
      · have d2 : decide (O > P) = true := decide_eq_true h2
        go_wp2_with fail
        go_roundw
        case rel => exact ⟨k + 1, by omega, by go_num, by rw [HPs2.out, if_pos h2], HB2.out⟩
        case measure => simp [intOf]; omega
      · have d2 : decide (O > P) = false := decide_eq_false h2
        go_wp2_with fail
        go_roundw
        case rel => exact ⟨k + 1, by omega, by go_num, by rw [HPs2.out, if_neg (by omega)], HB2.out⟩
        case measure => simp [intOf]; omega
    · obtain rfl : k = n := by omega
      go_wp2_with fail
      go_ret
      exact ⟨rfl, HB.out⟩
end Go.Proofs.Ytihmboibpjfohaa
