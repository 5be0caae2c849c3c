/-
  few, right and level of the law of chapter 49, walked.
-/
import Derived.Test.YtmbdlnimegdigaaBulV
import Derived.Test.YtmbdlnimegdigaaBulS
namespace Go.Proofs.Ytmbdlnimegdigaa
open Go.RowKit

def fewB (bs : List Bu) : Bool := decide (bs.length ≤ 100) && bs.all fun b => decide (b.zs.length ≤ 100)
def rightB (bs : List Bu) : Bool := fewB bs && decide (rightN bs = 0)

set_option maxRecDepth 100000 in
set_option maxHeartbeats 2000000 in
theorem few_any (A : Option Addr) (n c : Nat) (bs : List Bu) (r : Bool) (w : World) (hr : Buls w w.heap.size A n bs) (h : fewB bs = r) :
    Calls Try.prog 10 #[.slice A n c] w fun e w' => e = .returned (.bool r) ∧ Below w.heap.size w w' := by
  have HR := Lib.hid hr
  have HL := Lib.hid hr.len
  have HRR := Lib.hid h
  clear hr h
  by_cases h100 : 100 < n
  · have HZ : Hid (r = false) := by
      show _ = _
      rw [← HRR.out, fewB, decide_eq_false (by rw [HL.out]; omega)]
      rfl
    go_enter Try.func10, Try.ntmps10
    go_wp2_with fail
    go_ret
    exact ⟨ret_b HZ.out.symm, Below.refl _ _⟩
  have HF0 : Hid (bs.all (fun b => decide (b.zs.length ≤ 100)) = r) := by
    show _ = _
    rw [← HRR.out, fewB, decide_eq_true (by rw [HL.out]; omega)]
    rfl
  go_enter Try.func10, Try.ntmps10
  go_wp2_with fail
  go_loopw [3] (fun i wr => ∃ k : Nat, k ≤ n ∧ i = .int .i64 k ∧ (bs.drop k).all (fun b => decide (b.zs.length ≤ 100)) = r ∧ Below w.heap.size w wr) (fun i _ => n - (intOf i).toNat)
  case atStart => exact ⟨0, by omega, rfl, HF0.out, Below.refl _ _⟩
  case round =>
    obtain ⟨k, hk, rfl, hF, hbr⟩ := hrel
    obtain ⟨wo, rfl⟩ : ∃ wo : World, wo = wr := ⟨_, rfl⟩
    have HF := Lib.hid hF
    have HB := Lib.hid hbr
    clear hF hbr
    by_cases hlt : k < n
    · obtain ⟨ad, z, rfl, hab, hcs, hrow⟩ := (HR.out.below HB.out).at_ hlt
      have HDr := Lib.hid (bu_drop bs k (by rw [HL.out]; exact hlt))
      generalize bs.getD k ⟨0, 0, 0, 0, 0, 0, []⟩ = b at *
      obtain ⟨ver, fr, ti, lo, hi, lev, zs⟩ := b
      obtain ⟨A2, c2, rfl, hz1, hz2, hzr⟩ := hrow
      obtain ⟨n2, hn2⟩ : ∃ n2, zs.length = n2 := ⟨_, rfl⟩
      rw [hn2] at hz1 hzr hcs
      have HN2 := Lib.hid hn2
      have e5 : wo.cell? ⟨(ad.add (k * 7)).block, (ad.add (k * 7)).off + 5, none⟩ = some (.slice A2 n2 c2) := hcs 5 _ rfl
      clear hcs hzr hn2 hz2 hz1
      by_cases hz : 100 < n2
      · have HZ : Hid (r = false) := by
          show _ = _
          have h := HF.out
          rw [HDr.out] at h
          simp only [List.all_cons, HN2.out, decide_eq_false (show ¬ n2 ≤ 100 by omega), Bool.false_and] at h
          exact h.symm
        go_wp2_with fail
        go_ret
        exact ⟨ret_b HZ.out.symm, HB.out⟩
      · have HFn : Hid ((bs.drop (k + 1)).all (fun b => decide (b.zs.length ≤ 100)) = r) := by
          show _ = _
          have h := HF.out
          rw [HDr.out] at h
          simp only [List.all_cons, HN2.out, decide_eq_true (show n2 ≤ 100 by omega), Bool.true_and] at h
          exact h
        go_wp2_with fail
        go_roundw
        case rel => exact ⟨k + 1, by omega, by go_num, HFn.out, HB.out⟩
        case measure => simp [intOf]; omega
    · obtain rfl : k = n := by omega
      have HZ : Hid (r = true) := by
        show _ = _
        have h := HF.out
        rw [List.drop_eq_nil_of_le (by rw [HL.out]; exact Nat.le_refl _)] at h
        exact h.symm
      go_wp2_with fail
      go_ret
      exact ⟨ret_b HZ.out.symm, HB.out⟩

set_option maxRecDepth 100000 in
set_option maxHeartbeats 2000000 in
theorem rgt_any (A : Option Addr) (n c : Nat) (bs : List Bu) (r : Bool) (w : World) (hr : Buls w w.heap.size A n bs) (h : rightB bs = r) :
    Calls Try.prog 13 #[.slice A n c] w fun e w' => e = .returned (.bool r) ∧ Below w.heap.size w w' := by
  have HR := Lib.hid hr
  clear hr
  obtain ⟨q, hq⟩ : ∃ q, fewB bs = q := ⟨_, rfl⟩
  obtain ⟨v, hv⟩ : ∃ v, rightN bs = v := ⟨_, rfl⟩
  have HQ := Lib.hid hq
  have HV : Hid (∀ W : World, Buls W W.heap.size A n bs → Calls Try.prog 12 #[.slice A n c] W fun e w' => e = .returned (.int .i64 v) ∧ Below W.heap.size W w') := fun W hW => hv ▸ rright_any A n c bs W hW
  rw [rightB, hq, hv] at h
  clear hq hv
  go_enter Try.func13, Try.ntmps13
  go_wp2_with fail
  with_reducible refine (few_any A n c bs q w HR.out HQ.out).mono ?_
  rintro e w1 ⟨rfl, hb1⟩
  have HB1 := Lib.hid hb1
  have HR1 := Lib.hid (HR.out.now hb1)
  clear hb1
  cases q with
  | false =>
    have HZ : Hid (r = false) := hide h.symm
    clear h
    go_wp2_with fail
    go_ret
    exact ⟨ret_b HZ.out.symm, HB1.out⟩
  | true =>
    by_cases h0 : v = 0
    · have HZ : Hid (r = true) := by
        show _ = _
        rw [← h, decide_eq_true h0]
        rfl
      subst h0
      clear h
      go_wp2_with fail
      with_reducible refine (HV.out _ HR1.out).mono ?_
      rintro e w2 ⟨rfl, hb2⟩
      have HB2 := Lib.hid (HB1.out.trans (hb2.mono HB1.out.size))
      clear hb2
      go_wp2_with fail
      go_ret
      exact ⟨ret_b HZ.out.symm, HB2.out⟩
    · have HZ : Hid (r = false) := by
        show _ = _
        rw [← h, decide_eq_false h0]
        rfl
      clear h
      go_wp2_with fail
      with_reducible refine (HV.out _ HR1.out).mono ?_
      rintro e w2 ⟨rfl, hb2⟩
      have HB2 := Lib.hid (HB1.out.trans (hb2.mono HB1.out.size))
      clear hb2
      go_wp2_with fail
      go_ret
      exact ⟨ret_b (by rw [HZ.out]; exact beq_eq_false_iff_ne.2 h0), HB2.out⟩

set_option maxRecDepth 100000 in
set_option maxHeartbeats 2000000 in
theorem level_any (A : Option Addr) (n c : Nat) (bs : List Bu) (zone low high t : Int) (w : World) (hr : Buls w w.heap.size A n bs) (hn : n ≤ maxLen) :
    Calls Try.prog 19 #[.slice A n c, .agg #[.int .i64 zone, .int .i64 low, .int .i64 high, .int .i64 t]] w fun e w' => e = .returned (.int .i64 (levN bs zone low high t)) ∧ Below w.heap.size w w' := by
  have HR := Lib.hid hr
  clear hr
  obtain ⟨v, hv⟩ : ∃ v, levN bs zone low high t = v := ⟨_, rfl⟩
  have HC : Hid (∀ W : World, Buls W W.heap.size A n bs → Calls Try.prog 23 #[.slice A n c, .int .i64 zone, .int .i64 low, .int .i64 high, .int .i64 t] W fun e w' => e = .returned (.int .i64 v) ∧ Below W.heap.size W w') := fun W hW => hv ▸ lvl_any A n c bs zone low high t W hW hn
  rw [hv]
  clear hv
  go_enter Try.func19, Try.ntmps19
  go_wp2_with
    (refine wpList_box_blk rfl 37 (.tmp 1) rfl #[.int .i64 zone, .int .i64 low, .int .i64 high, .int .i64 t] rfl ?_
     intro wa hxa hba hsa
     have HXa := Lib.hid hxa
     have HBa := Lib.hid hba
     have HRa := Lib.hid (HR.out.now hba)
     have hla : w.heap.size < wa.heap.size := hxa.lt
     have e0 : wa.cell? ⟨w.heap.size, 0, none⟩ = some (.int .i64 zone) := HXa.out.cell 0
     have e1 : wa.cell? ⟨w.heap.size, 1, none⟩ = some (.int .i64 low) := HXa.out.cell 1
     have e2 : wa.cell? ⟨w.heap.size, 2, none⟩ = some (.int .i64 high) := HXa.out.cell 2
     have e3 : wa.cell? ⟨w.heap.size, 3, none⟩ = some (.int .i64 t) := HXa.out.cell 3
     clear hxa hba hsa)
  with_reducible refine (HC.out _ HRa.out).mono ?_
  rintro e w1 ⟨rfl, hb1⟩
  have HB1 := Lib.hid (HBa.out.trans (hb1.mono HBa.out.size))
  clear hb1
  go_wp2_with fail
  go_ret
  exact ⟨rfl, HB1.out⟩
end Go.Proofs.Ytmbdlnimegdigaa
