/-
  Small functions of chapter 49 and of its reference, walked.
-/
import Derived.Test.YtmbdlnimegdigaaBulM
import Derived.BigQuiet
import Derived.Deep.Light
namespace Go.Proofs.Ytmbdlnimegdigaa
open Go.RowKit

theorem ret_b {a b : Bool} (h : a = b) : Ending.returned (.bool a) = .returned (.bool b) := by rw [h]
theorem ret_i {k : IntKind} {a b : Int} (h : a = b) : Ending.returned (.int k a) = .returned (.int k b) := by rw [h]

set_option maxRecDepth 100000 in
set_option maxHeartbeats 1000000 in
theorem has_any (f t x : Int) (w : World) : Calls Try.prog 30 #[.agg #[.int .i64 f, .int .i64 t], .int .i64 x] w fun e w' => e = .returned (.bool (decide (f ≤ x) && decide (x < t))) ∧ Below w.heap.size w w' := by
  go_enter Try.func30, Try.ntmps30
  by_cases h : f ≤ x
  · go_wp2
    go_ret
    exact ⟨ret_b (by simp [h]), (Below.refl _ _).alloc (Nat.le_refl _) _⟩
  · have hd : decide (f ≤ x) = false := by simpa using h
    go_wp2
    go_ret
    exact ⟨rfl, (Below.refl _ _).alloc (Nat.le_refl _) _⟩
set_option maxRecDepth 100000 in
set_option maxHeartbeats 1000000 in
theorem covers_any (b : Bu) (z : Value) (hz : z.oneCell' = true) (x : Int) (w : World) : Calls Try.prog 31 #[.agg #[.int .i64 b.ver, .int .i64 b.fr, .int .i64 b.ti, .int .i64 b.lo, .int .i64 b.hi, z, .int .i64 b.lev], .int .i64 x] w fun e w' => e = .returned (.bool (hasB b x)) ∧ Below w.heap.size w w' := by
  obtain ⟨ver, fr, ti, lo, hi, lev, zs⟩ := b
  show Calls _ _ _ _ fun e w' => e = .returned (.bool (decide (fr ≤ x) && decide (x < ti))) ∧ _
  go_enter Try.func31, Try.ntmps31
  by_cases h : fr ≤ x
  · go_wp2
    go_ret
    exact ⟨ret_b (by simp [h]), (Below.refl _ _).alloc (Nat.le_refl _) _⟩
  · have hd : decide (fr ≤ x) = false := by simpa using h
    go_wp2
    go_ret
    exact ⟨rfl, (Below.refl _ _).alloc (Nat.le_refl _) _⟩

def InRR (b : Bu) (w : World) (e : Ending) (w' : World) : Prop := ∃ r : Bool, e = .returned (.bool r) ∧ (r = true ↔ InR b) ∧ Below w.heap.size w w'
set_option maxRecDepth 100000 in
set_option maxHeartbeats 4000000 in
theorem inrange_any (b : Bu) (z : Value) (hz : z.oneCell' = true) (w : World) : Calls Try.prog 25 #[.agg #[.int .i64 b.ver, .int .i64 b.fr, .int .i64 b.ti, .int .i64 b.lo, .int .i64 b.hi, z, .int .i64 b.lev]] w (InRR b w) := by
  obtain ⟨ver, fr, ti, lo, hi, lev, zs⟩ := b
  go_enter Try.func25, Try.ntmps25
  go_wp2
  all_goals
    go_ret
    refine ⟨_, rfl, ?_, (Below.refl _ _).alloc (Nat.le_refl _) _⟩
    go_light
    simp only [InR]
    try simp only [Bool.and_eq_true, decide_eq_true_eq, beq_iff_eq, bne_iff_ne, beq_eq_false_iff_ne, bne_eq_false_iff_eq, ne_eq, Bool.false_eq_true, false_iff, true_iff, iff_true, iff_false] at *
    omega

/-! ### zones -/
def prevZ (zs : List Int) (k : Nat) : Int := (0 :: zs).getD k 0
theorem prevZ_succ (zs : List Int) (k : Nat) : prevZ zs (k + 1) = zs.getD k 0 := by simp [prevZ]
theorem zonesF_at (zs : List Int) (p : Int) (k : Nat) (h : k < zs.length) : zonesF p (zs.drop k) = (decide (p < zs.getD k 0) && decide (zs.getD k 0 ≤ 32) && zonesF (zs.getD k 0) (zs.drop (k + 1))) := by
  have e : zs.drop k = zs.getD k 0 :: zs.drop (k + 1) := by
    rw [List.drop_eq_getElem_cons h]
    simp [List.getElem?_eq_getElem h]
  rw [e]
  rfl
theorem zonesF_no (zs : List Int) (p : Int) (k : Nat) (h : k < zs.length) (hb : ¬ (p < zs.getD k 0 ∧ zs.getD k 0 ≤ 32)) : zonesF p (zs.drop k) = false := by
  rw [zonesF_at zs p k h]
  have : (decide (p < zs.getD k 0) && decide (zs.getD k 0 ≤ 32)) = false := by
    rw [Bool.eq_false_iff]
    intro h2
    simp only [Bool.and_eq_true, decide_eq_true_eq] at h2
    exact hb h2
  rw [this]
  rfl
theorem zonesF_yes (zs : List Int) (p : Int) (k : Nat) (h : k < zs.length) (h1 : p < zs.getD k 0) (h2 : zs.getD k 0 ≤ 32) : zonesF p (zs.drop k) = zonesF (zs.getD k 0) (zs.drop (k + 1)) := by
  rw [zonesF_at zs p k h, decide_eq_true h1, decide_eq_true h2]
  rfl

set_option maxRecDepth 100000 in
set_option maxHeartbeats 1000000 in
theorem zones_any (A : Option Addr) (n c B : Nat) (l : List Int) (b : Bool) (w : World) (hr : Ints w B A n l) (hn : n ≤ maxLen) (hb : zonesB l = b) :
    Calls Try.prog 26 #[.slice A n c] w fun e w' => e = .returned (.bool b) ∧ w = w' := by
  unfold maxLen at hn
  have HR := Lib.hid hr
  have HL := Lib.hid hr.ilen
  have HB := Lib.hid hb
  clear hr hb
  go_enter Try.func26, Try.ntmps26
  go_wp2_with fail
  go_loop [7] (fun i => ∃ k : Nat, k ≤ n ∧ i = .int .i64 k ∧ 0 ≤ prevZ l k ∧ zonesF 0 l = zonesF (prevZ l k) (l.drop k)) (fun i => n - (intOf i).toNat)
  case atStart => exact ⟨0, by omega, rfl, by simp [prevZ], rfl⟩
  case round =>
    obtain ⟨k, hk, rfl, hp0, hF⟩ := hrel
    have HF := Lib.hid hF
    clear hF
    by_cases hlt : k < n
    · obtain ⟨ad, rfl, _, hc⟩ := HR.out.int hlt
      have HNo : Hid (¬ (prevZ l k < l.getD k 0 ∧ l.getD k 0 ≤ 32) → b = false) := by
        intro h
        have h2 := zonesF_no l (prevZ l k) k (by rw [HL.out]; exact hlt) h
        rw [← HB.out, zonesB, HF.out, h2]
        rfl
      have HYes : Hid (prevZ l k < l.getD k 0 → l.getD k 0 ≤ 32 → zonesF 0 l = zonesF (l.getD k 0) (l.drop (k + 1))) := fun h1 h2 => HF.out.trans (zonesF_yes l _ k (by rw [HL.out]; exact hlt) h1 h2)
      have HPs := Lib.hid (prevZ_succ l k)
      have HPrev : Hid (∀ k', k = k' + 1 → ∃ p : Int, prevZ l k = p ∧ w.cell? (ad.add k') = some (.int .i64 p)) := by
        intro k' hk'
        obtain ⟨ad', had, _, hc'⟩ := HR.out.int (show k' < n by omega)
        injection had with had
        subst had
        exact ⟨l.getD k' 0, by rw [hk', prevZ_succ], hc'⟩
      generalize l.getD k 0 = x at *
      by_cases h1 : x < 1
      · have HZ := Lib.hid (HNo.out (by omega))
        go_wp2_with fail
        go_ret
        exact ⟨ret_b HZ.out.symm, rfl⟩
      by_cases h2 : 32 < x
      · have HZ := Lib.hid (HNo.out (by omega))
        go_wp2_with fail
        go_ret
        exact ⟨ret_b HZ.out.symm, rfl⟩
      rcases Nat.eq_zero_or_pos k with hk0 | hk0
      · subst hk0
        have hc0 : w.cell? ad = some (.int .i64 x) := by have h := hc; simpa [Addr.add] using h
        have hp : prevZ l 0 = 0 := by simp [prevZ]
        have HS := Lib.hid (HYes.out (by rw [hp]; omega) (by omega))
        clear hp
        go_wp2_with fail
        go_round
        case rel => exact ⟨1, by omega, by go_num, by rw [HPs.out]; omega, by rw [HPs.out]; exact HS.out⟩
        case measure => simp [intOf]; omega
      · obtain ⟨k', hk'⟩ : ∃ k', k = k' + 1 := ⟨k - 1, by omega⟩
        obtain ⟨p, hp, hcp⟩ := HPrev.out k' hk'
        have hj : (k : Int) - 1 = (k' : Int) := by omega
        have HK := Lib.hid hk'
        rw [hp] at HNo HYes hp0
        clear hp
        by_cases h3 : x ≤ p
        · have HZ := Lib.hid (HNo.out (by omega))
          clear hk'
          go_wp2_with fail
          go_ret
          exact ⟨ret_b HZ.out.symm, rfl⟩
        · have HS := Lib.hid (HYes.out (by omega) (by omega))
          clear hk'
          go_wp2_with fail
          go_round
          case rel => exact ⟨k + 1, by omega, by go_num, by rw [HPs.out]; omega, by rw [HPs.out]; exact HS.out⟩
          case measure => simp [intOf]; omega
    · obtain rfl : k = n := by omega
      have HZ : Hid (decide (0 < k) = b) := by
        show _ = _
        rw [← HB.out, zonesB, HF.out, List.drop_of_length_le (by rw [HL.out]; exact Nat.le_refl _), HL.out, zonesF, Bool.true_and]
      go_wp2_with fail
      go_ret
      exact ⟨ret_b HZ.out, rfl⟩
end Go.Proofs.Ytmbdlnimegdigaa
