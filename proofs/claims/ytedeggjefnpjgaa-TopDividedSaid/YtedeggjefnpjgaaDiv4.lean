/-
  uplink.Receive over rides that are told by their numbers; the letters' bytes.
-/
import Derived.Test.YtedeggjefnpjgaaDiv3
import Derived.Test.YtedeggjefnpjgaaDiv5
namespace Go.Proofs.Ytedeggjefnpjgaa
open Go.RowKit

theorem find_yes {x : Nat} : ∀ {e : List Nat}, x ∈ e → ∃ i, i < e.length ∧ (e.map rdN).findIdx? (fun r => r.seq == (x : Int)) = some i ∧ (e.map rdN).getD i rd0 = rdN x ∧ (e.map rdN).eraseIdx i = (e.erase x).map rdN
  | [], h => by cases h
  | y :: e, h => by
    by_cases hy : y = x
    · subst hy
      refine ⟨0, by simp, ?_, by simp, by simp⟩
      simp [List.findIdx?_cons, rdN_seq]
    · rcases List.mem_cons.1 h with h | h
      · exact absurd h.symm hy
      · obtain ⟨i, h1, h2, h3, h4⟩ := find_yes h
        refine ⟨i + 1, by simp [h1], ?_, ?_, ?_⟩
        · rw [List.map_cons, List.findIdx?_cons, rdN_seq, if_neg (by simp; omega), h2]
          rfl
        · rw [List.map_cons, List.getD_cons_succ, h3]
        · rw [List.erase_cons_tail (by simpa using hy), List.map_cons, List.eraseIdx_cons_succ, h4, List.map_cons]
theorem find_no {x : Nat} {e : List Nat} (h : x ∉ e) : (e.map rdN).findIdx? (fun r => r.seq == (x : Int)) = none := by
  rw [List.findIdx?_eq_none_iff]
  intro r hr
  obtain ⟨y, hy, rfl⟩ := List.mem_map.1 hr
  rw [rdN_seq]
  have : y ≠ x := fun e => h (e ▸ hy)
  simp
  omega
theorem dr_eq : ∀ (f k : Nat) (e : List Nat), drR f (rdsN 1 k) (e.map rdN) ((k : Int) + 1) = (rdsN 1 (drainN f k e).1, (drainN f k e).2.map rdN, ((drainN f k e).1 : Int) + 1)
  | 0, k, e => rfl
  | f + 1, k, e => by
    unfold drainN
    by_cases h : k + 1 ∈ e
    · rw [if_pos h, ← dr_eq f (k + 1) (e.erase (k + 1))]
      obtain ⟨i, _, h2, h3, h4⟩ := find_yes h
      rw [drR, show ((k : Int) + 1) = ((k + 1 : Nat) : Int) by omega, h2]
      show drR f (rdsN 1 k ++ [(e.map rdN).getD i rd0]) ((e.map rdN).eraseIdx i) _ = _
      rw [h3, h4, show rdN (k + 1) = rdN (1 + k) by rw [Nat.add_comm], rdsN_snoc]
    · rw [if_neg h, drR_none (by rw [show ((k : Int) + 1) = ((k + 1 : Nat) : Int) by omega]; exact find_no h)]
theorem ins_eq (s : Nat) : ∀ (e : List Nat), s ∉ e → ∃ i, i ≤ e.length ∧ (insN s e).map rdN = (e.map rdN).take i ++ rdN s :: (e.map rdN).drop i ∧ (∀ j, j < i → decide (((e.map rdN).getD j rd0).seq > (s : Int)) = false) ∧ (i < e.length → decide (((e.map rdN).getD i rd0).seq > (s : Int)) = true)
  | [], _ => ⟨0, Nat.le_refl _, rfl, by omega, by simp⟩
  | y :: e, h => by
    unfold insN
    by_cases hy : s < y
    · rw [if_pos hy]
      refine ⟨0, Nat.zero_le _, by simp, by omega, fun _ => ?_⟩
      simp [rdN_seq]
      omega
    · rw [if_neg hy]
      obtain ⟨i, h1, h2, h3, h4⟩ := ins_eq s e fun hc => h (by simp [hc])
      refine ⟨i + 1, by simp [h1], by simp [h2], fun j hj => ?_, fun hi => ?_⟩
      · rcases j with _ | j
        · simp [rdN_seq]
          omega
        · rw [List.map_cons, List.getD_cons_succ]
          exact h3 j (by omega)
      · rw [List.map_cons, List.getD_cons_succ]
        exact h4 (by simpa using hi)
theorem any_iff {s : Nat} {e : List Nat} {b : Bool} (h : decide (s ∈ e) = b) : (e.map rdN).any (fun x => x.seq == (rdN s).seq) = b := by
  rw [← h, Bool.eq_iff_iff, List.any_eq_true, decide_eq_true_iff]
  constructor
  · rintro ⟨r, hr, he⟩
    obtain ⟨y, hy, rfl⟩ := List.mem_map.1 hr
    rw [rdN_seq, rdN_seq, beq_iff_eq] at he
    have : y = s := by omega
    rwa [this] at hy
  · intro hm
    exact ⟨rdN s, List.mem_map.2 ⟨s, hm, rfl⟩, by simp⟩
/-- a ride arrives -/
theorem recv_any (n s k : Nat) (e : List Nat) (gA : Option Addr) (gn gc : Nat) (eA : Option Addr) (en ec : Nat) (w : World) (hg : Strs Rd.cells 7 w w.heap.size gA gn (rdsN 1 k)) (hgn : k = gn) (he : Strs Rd.cells 7 w w.heap.size eA en (e.map rdN)) (hen : e.length = en) (he2 : en ≤ 100) (hk : k ≤ n) (hn : n ≤ 20) :
    Calls Try.prog 22 #[.agg #[.int .i64 4, .int .i64 ((k : Int) + 1), .slice gA gn gc, .slice eA en ec], (rdN s).val] w (RcR 4 (((recvN s k e).1 : Int) + 1) (rdsN 1 (recvN s k e).1) ((recvN s k e).2.map rdN) w) := by
  have hgl : (rdsN 1 k).length = gn := by rw [rdsN_len, hgn]
  have hel : (e.map rdN).length = en := by rw [List.length_map, hen]
  unfold recvN
  by_cases h1 : s ≤ k
  · rw [if_pos h1]
    exact recv_old _ gA gn gc eA en ec _ _ (rdN s) w hg hgl (by omega) he hel (by omega) (by omega) (by rw [rdN_seq]; omega)
  · rw [if_neg h1]
    by_cases h2 : s = k + 1
    · rw [if_pos h2]
      have h := dr_eq (e.map rdN).length (k + 1) e
      rw [List.length_map] at h
      refine recv_next _ gA gn gc eA en ec _ _ (rdN s) w hg hgl (by omega) he hel (by omega) (by omega) (by rw [rdN_seq]; omega) _ _ _ ?_
      rw [List.length_map, h2, show rdN (k + 1) = rdN (1 + k) by rw [Nat.add_comm], rdsN_snoc, show (k : Int) + 1 + 1 = ((k + 1 : Nat) : Int) + 1 by omega]
      exact h
    · rw [if_neg h2]
      by_cases h3 : s ∈ e
      · rw [if_pos h3]
        exact recv_dup _ gA gn gc eA en ec _ _ (rdN s) w hg hgl (by omega) he hel (by omega) (by omega) (by rw [rdN_seq]; omega) (any_iff (by simp [h3]))
      · rw [if_neg h3]
        obtain ⟨i, k1, k2, k3, k4⟩ := ins_eq s e h3
        simp only [k2]
        exact recv_new _ gA gn gc eA en ec _ _ (rdN s) w hg hgl (by omega) he hel (by omega) (by omega) (by rw [rdN_seq]; omega) (any_iff (by simp [h3])) i (by omega) k3 (fun hi => k4 (by omega))
end Go.Proofs.Ytedeggjefnpjgaa
