/-
  Chapter 55: Right of the reference, walked.
-/
import Derived.Test.YtihmboibpjfohaaCenB
import Derived.BigQuiet
import Derived.Deep.Light
import Derived.IntWalk
namespace Go.Proofs.Ytihmboibpjfohaa
open Go.RowKit

set_option maxRecDepth 100000 in
set_option maxHeartbeats 2000000 in
theorem rright_any (v : Value) (l : List Cr) (w : World) (hv : StrV Cr.cells 4 w w.heap.size v l) :
    Calls Try.prog 13 #[v] w fun e w' => e = .returned (.int .i64 ((rightC l : Nat) : Int)) ∧ Below w.heap.size w w' := by
  obtain ⟨A, n, c, rfl, HN, hc1, hc2, hr⟩ := hv.nam
  have HR := Lib.hid hr
  have HLong : Hid (2000 < l.length → rightC l = 4) := fun h => by unfold rightC; rw [if_pos h]
  have HSt : Hid (l.length ≤ 2000 → GoC l 0) := GoC.start
  have HDone : Hid (∀ k, k = l.length → GoC l k → rightC l = 0) := fun k hk h => by subst hk; exact h.done
  obtain ⟨R, hR⟩ : ∃ x, rightC l = x := ⟨_, rfl⟩
  have HRe := Lib.hid hR
  rw [hR] at HLong HDone ⊢
  clear hR hv hr
  have hm := Int.ofNat_le.2 (show n ≤ maxLen by omega)
  by_cases hs : n ≤ 2000
  · have dl : decide ((n : Int) > 2000) = false := decide_eq_false (by omega)
    have HS0 := HSt.out (by rw [HN.out]; exact hs)
    go_enter Try.func13, Try.ntmps13
    go_wp2_with fail
    go_loopw [3, 4] (fun on i wr => ∃ k : Nat, k ≤ n ∧ i = .int .i64 k ∧ on = .int .i64 (sumF chC (l.take k)) ∧ GoC l k ∧ Below w.heap.size w wr) (fun _ i _ => n - (intOf i).toNat)
    case atStart => exact ⟨0, by omega, rfl, rfl, HS0, Below.refl _ _⟩
    case round =>
      obtain ⟨k, hk, rfl, rfl, hgo, hbr⟩ := hrel
      obtain ⟨wo, rfl⟩ : ∃ wo : World, wo = wr := ⟨_, rfl⟩
      have HG := Lib.hid hgo
      have HB := Lib.hid hbr
      have hsl := hgo.le
      have hsz := hbr.size
      clear hgo hbr
      by_cases hlt : k < n
      · have hkl : k < l.length := by rw [HN.out]; exact hlt
        obtain ⟨ad, rfl, hadb, hcl⟩ := strs_at (HR.out.below HB.out) (fun _ => rfl) HN.out hlt cr0
        have hadw : ad.block < w.heap.size := hadb
        have HNx := Lib.hid (HG.out.next hkl)
        have HSn := Lib.hid (sumF_snoc chC hkl)
        have HStp := Lib.hid (HG.out.step hkl)
        have HPv : Hid (0 < k → ∃ a, prevC l k = some a ∧ a = (l.getD (k - 1) cr0).att) := fun h => ⟨_, by unfold prevC; rw [if_neg (by omega)], rfl⟩
        have HP0 : Hid (k = 0 → prevC l k = none) := fun h => by unfold prevC; rw [if_pos h]
        generalize prevC l k = pv at *
        rw [HRe.out] at HNx
        have hq : l.getD k cr0 = l.getD k cr0 := rfl
        obtain ⟨⟨kd, pl, nm, at_⟩, hq⟩ : ∃ q, l.getD k cr0 = q := ⟨_, rfl⟩
        rw [hq] at hcl HNx HSn HStp
        obtain ⟨S, hS⟩ : ∃ x, sumF chC (l.take k) = x := ⟨_, rfl⟩
        rw [hS] at hsl HNx HSn HStp ⊢
        have HIn : Hid (inC ⟨kd, pl, nm, at_⟩ = decide (1 ≤ kd ∧ kd ≤ 3 ∧ 1 ≤ pl ∧ pl ≤ 9999 ∧ 1 ≤ nm ∧ nm ≤ 1000 ∧ 0 ≤ at_ ∧ at_ ≤ 20000000)) := hide rfl
        have HCh : Hid (inC ⟨kd, pl, nm, at_⟩ = true → ∀ W, Calls Try.prog 32 #[.agg #[.int .i64 kd, .int .i64 pl, .int .i64 nm, .int .i64 at_]] W fun e w' => e = .returned (.int .i64 (chC ⟨kd, pl, nm, at_⟩)) ∧ Below W.heap.size W w') := fun h W => rchange_any _ _ _ _ W (by have := of_decide_eq_true h; simp only at this; omega)
        have HBd : Hid (inC ⟨kd, pl, nm, at_⟩ = true → -1000 ≤ chC ⟨kd, pl, nm, at_⟩ ∧ chC ⟨kd, pl, nm, at_⟩ ≤ 1000) := fun h => chC_bound h
        generalize inC ⟨kd, pl, nm, at_⟩ = ok at *
        generalize chC ⟨kd, pl, nm, at_⟩ = ch at *
        have HCl : Hid (∀ j u, ([.int .i64 kd, .int .i64 pl, .int .i64 nm, .int .i64 at_] : List Value)[j]? = some u → wo.cell? ((ad.add (k * 4)).add j) = some u) := hcl
        have HCv : Hid (∀ (W : World), Below wo.heap.size wo W → ∀ j u, ([.int .i64 kd, .int .i64 pl, .int .i64 nm, .int .i64 at_] : List Value)[j]? = some u → W.cell? ((ad.add (k * 4)).add j) = some u) := fun W hW j u hu => (hW.cell (p := (ad.add (k * 4)).add j) (by rw [block_of_add, block_of_add]; omega)).trans (HCl.out j u hu)
        clear hcl hq hS
        go_upto_region 8 with (refine wpList_load_at 24 (.tmp 17) rfl rfl (ad.add (k * 4)) rfl [.int .i64 kd, .int .i64 pl, .int .i64 nm, .int .i64 at_] (HCv.out _ (Below.refl _ _)) _ Try.underlying24 rfl (by kernel_rfl) ?_)
        have HBw3 := (Blk.new wo 24 #[.int .i64 kd, .int .i64 pl, .int .i64 nm, .int .i64 at_])
        have HLw3 := (below_new wo (.cells #[.int .i64 kd, .int .i64 pl, .int .i64 nm, .int .i64 at_] 24))
        have hsw3 : (wo.alloc (.cells #[.int .i64 kd, .int .i64 pl, .int .i64 nm, .int .i64 at_] 24)).heap.size = wo.heap.size + 1 := by simp
        generalize wo.alloc (.cells #[.int .i64 kd, .int .i64 pl, .int .i64 nm, .int .i64 at_] 24) = w3 at HBw3 HLw3 hsw3 ⊢
        replace HBw3 := Lib.hid HBw3
        replace HLw3 := Lib.hid HLw3
        have hlw3 : wo.heap.size < w3.heap.size := by omega
        replace hsw3 := Lib.hid hsw3
        have HX3 := HBw3
        have HQ3 := HLw3
        have hs3 := hlw3
        have c0 : w3.cell? ⟨wo.heap.size, 0, none⟩ = some (.int .i64 kd) := HX3.out.cell 0
        have c1 : w3.cell? ⟨wo.heap.size, 1, none⟩ = some (.int .i64 pl) := HX3.out.cell 1
        have c2 : w3.cell? ⟨wo.heap.size, 2, none⟩ = some (.int .i64 nm) := HX3.out.cell 2
        have c3 : w3.cell? ⟨wo.heap.size, 3, none⟩ = some (.int .i64 at_) := HX3.out.cell 3
        clear HBw3 HLw3 hsw3 hlw3
        go_cut [56] (fun s wx => s = .bool (!ok) ∧ w3 = wx)
        case first =>
          go_wp2_with fail
          all_goals (go_meet; refine ⟨congrArg Value.bool ?_, rfl⟩; rw [HIn.out]; clear HIn; rw [Bool.eq_iff_iff]; simp only [Bool.or_eq_true, Bool.not_eq_true', decide_eq_true_eq, decide_eq_false_iff_not, true_iff, true_or, or_true]; omega)
        obtain ⟨rfl, rfl⟩ := hcut
        cases ok with
        | false =>
          have HB3 := Lib.hid (HB.out.trans (HQ3.out.mono hsz))
          have HE : Hid (R = 2) := hide (by have h := HNx.out; rw [if_pos rfl] at h; exact h)
          go_wp2_with fail
          go_ret
          exact ⟨ret_int (by rw [HE.out]; rfl), HB3.out⟩
        | true =>
          have hbd := HBd.out rfl
          have hwr : IntKind.i64.wrap (S + ch) = S + ch := IntWalk.i64_in _ (by omega)
          have hs3' := HQ3.out.size
          go_wp2_with fail
          go_cut [69] (fun s wx => s = .bool (lateC pv at_) ∧ Below wo.heap.size wo wx ∧ Blk wx wo.heap.size 24 #[.int .i64 kd, .int .i64 pl, .int .i64 nm, .int .i64 at_])
          case first =>
            rcases Nat.eq_zero_or_pos k with hk0 | hk0
            · subst hk0
              have hp := HP0.out rfl
              go_quiet (fail)
              go_wp2_with fail
              go_meet
              exact ⟨by rw [hp]; rfl, below_drewN HQ3.out _, HX3.out⟩
            · obtain ⟨a, hpa, hpv⟩ := HPv.out hk0
              obtain ⟨k', hk'⟩ : ∃ k', k - 1 = k' := ⟨_, rfl⟩
              obtain ⟨ad2, hin, _, hcs⟩ := strs_at (HR.out.below HB.out) (fun _ => rfl) HN.out (show k' < n by omega) cr0
              injection hin with hin
              subst hin
              have cp : w3.cell? ⟨(ad.add (k' * 4)).block, (ad.add (k' * 4)).off + 3, none⟩ = some (.int .i64 a) := by
                have h := hcs 3 _ rfl
                rw [← hk', ← hpv] at h
                exact (HQ3.out.cell (by rw [block_of_add]; omega)).trans (by rw [← hk']; exact h)
              have hj : (k : Int) - 1 = (k' : Int) := by omega
              have hkn : k' < n := by omega
              have dk : decide ((k : Int) > 0) = true := decide_eq_true (by omega)
              have hwk : IntKind.i64.wrap (k' : Int) = (k' : Int) := IntWalk.i64_in _ (by omega)
              clear hk' hcs hpv
              go_quiet (fail)
              clear hwk
              go_wp2_with fail
              go_meet
              exact ⟨by rw [hpa]; rfl, below_drewN HQ3.out _, HX3.out⟩
          obtain ⟨rfl, hcut, hxc⟩ := hcut
          clear c0 c1 c2 c3
          have HBc := Lib.hid (HB.out.trans (hcut.mono hsz))
          have HXc := Lib.hid hxc
          clear hcut hxc
          have hNx := HNx.out
          rw [if_neg (by decide)] at hNx
          obtain ⟨lt, hlate⟩ : ∃ x, lateC pv at_ = x := ⟨_, rfl⟩
          rw [hlate] at hNx ⊢
          cases lt with
          | true =>
            rw [if_pos rfl] at hNx
            go_wp2_with fail
            go_ret
            exact ⟨ret_int (by rw [hNx]; rfl), HBc.out⟩
          | false =>
            rw [if_neg (by decide)] at hNx
            have HNx2 := Lib.hid hNx
            clear hNx
            go_wp2_with (refine wpList_load_g 24 (.tmp 5) rfl rfl wo.heap.size rfl _ _ HXc.out _ Try.underlying24 rfl (by kernel_rfl) ?_)
            with_reducible refine (HCh.out trivial _).mono ?_
            rintro e w5 ⟨rfl, hb5⟩
            have HB5 := Lib.hid (HBc.out.trans (hb5.mono HBc.out.size))
            clear hb5
            obtain ⟨S2, hS2⟩ : ∃ x, S + ch = x := ⟨_, rfl⟩
            have HS2 := Lib.hid hS2
            rw [hS2] at hwr
            by_cases hneg : S2 < 0
            · have dn : decide (S2 < 0) = true := decide_eq_true hneg
              have HE : Hid (R = 10) := hide (by have h := HNx2.out; rw [if_pos (by rw [hS2]; exact hneg)] at h; exact h)
              go_wp2_with fail
              go_ret
              exact ⟨ret_int (by rw [HE.out]; rfl), HB5.out⟩
            · have dn : decide (S2 < 0) = false := decide_eq_false hneg
              have HG2 : Hid (GoC l (k + 1)) := HStp.out trivial hlate (by rw [hS2]; omega)
              have HS3 : Hid (sumF chC (l.take (k + 1)) = S2) := by show _ = _; rw [HSn.out, hS2]
              clear hwr
              go_wp2_with fail
              go_roundw
              case rel => exact ⟨k + 1, by omega, by go_num, by rw [HS3.out], HG2.out, HB5.out⟩
              case measure => simp [intOf]; omega
      · obtain rfl : k = n := by omega
        have HE : Hid (R = 0) := hide (HDone.out k (by rw [HN.out]) HG.out)
        go_wp2_with fail
        go_ret
        exact ⟨ret_int (by rw [HE.out]; rfl), HB.out⟩
  · have dl : decide ((n : Int) > 2000) = true := decide_eq_true (by omega)
    have HE : Hid (R = 4) := hide (HLong.out (by rw [HN.out]; omega))
    go_enter Try.func13, Try.ntmps13
    go_wp2_with fail
    go_ret
    exact ⟨ret_int (by rw [HE.out]; rfl), Below.refl _ _⟩
end Go.Proofs.Ytihmboibpjfohaa
