/-
  Body of chapter 25 and of its reference, walked.
-/
import Derived.Test.YthlhphifibldnaaCodecV
import Derived.Test.YthlhphifibldnaaSealK
import Derived.Test.YthlhphifibldnaaMat
import Derived.Test.YthlhphifibldnaaMedN
namespace Go.Proofs.Ythlhphifibldnaa
open Go.RowKit

theorem putsN_next (l : List Int) (k : Nat) (h : k < l.length) : putsN (l.take (k + 1)) = putsN (l.take k) ++ putN (l.getD k 0).toNat := by
  rw [List.take_succ_eq_append_getElem h, putsN_append]
  simp [putsN, List.getElem?_eq_getElem h]

theorem ints_new (w : World) (t : TypeId) (cs : Array Value) (l : List Int) (n : Nat) (hcs : cs.toList = l.map (Value.int .i64)) (hn : l.length = n) :
    Ints (w.alloc (.cells cs t)) (w.alloc (.cells cs t)).heap.size (some ⟨w.heap.size, 0, none⟩) n l := by
  have h := Reads.new w t cs 1 n (by rw [← Array.length_toList, hcs]; simp [hn])
  rw [hcs] at h
  have e : (w.alloc (.cells cs t)).heap.size = w.heap.size + 1 := by simp
  rw [e]
  exact h

set_option maxRecDepth 100000 in
set_option maxHeartbeats 1000000 in
theorem body_any (m : Med) (w : World) (h : RangeM m) :
    Calls Try.prog 19 #[.agg #[.int .i64 m.ser, .int .i64 m.cnt, .int .i64 m.prd, .int .i64 m.fst, .int .i64 m.lft, .int .i64 m.tdy, .int .i64 m.lif, .int .i64 m.at_, .int .u64 m.tag]] w fun e w' => ∃ v, e = .returned v ∧ OwnB w' w.heap.size v (bodyN m) ∧ Below w.heap.size w w' := by
  obtain ⟨ser, cnt, prd, fst, lft, tdy, lif, at_, tag⟩ := m
  obtain ⟨h1, h2, h3, h4, h5, h6, h7, h8, h9, h10, h11, h12, h13, h14, h15, h16⟩ := h
  simp only at h1 h2 h3 h4 h5 h6 h7 h8 h9 h10 h11 h12 h13 h14 h15 h16
  have HIdx : Hid (∀ k : Nat, k < 8 → ∀ W : World, (Instr.index 47 (.agg #[.int .i64 ser, .int .i64 cnt, .int .i64 prd, .int .i64 (fst + 1), .int .i64 lft, .int .i64 (tdy + 1), .int .i64 lif, .int .i64 (at_ + 1)]) (.int .i64 (k : Int))).run Try.prog W = .ok (.int .i64 ((bodyL ⟨ser, cnt, prd, fst, lft, tdy, lif, at_, tag⟩).getD k 0)) W) := by
    intro k hk W
    match k, hk with
    | 0, _ => show _ = _; kernel_rfl
    | 1, _ => show _ = _; kernel_rfl
    | 2, _ => show _ = _; kernel_rfl
    | 3, _ => show _ = _; kernel_rfl
    | 4, _ => show _ = _; kernel_rfl
    | 5, _ => show _ = _; kernel_rfl
    | 6, _ => show _ = _; kernel_rfl
    | 7, _ => show _ = _; kernel_rfl
  have HBd : Hid (∀ z ∈ bodyL ⟨ser, cnt, prd, fst, lft, tdy, lif, at_, tag⟩, 0 ≤ z ∧ z ≤ 20000001) := by
    intro z hz
    simp only [bodyL, List.mem_cons, List.not_mem_nil, or_false] at hz
    rcases hz with rfl | rfl | rfl | rfl | rfl | rfl | rfl | rfl <;> omega
  have HBl : Hid ((bodyL ⟨ser, cnt, prd, fst, lft, tdy, lif, at_, tag⟩).length = 8) := rfl
  have HBn : Hid (bodyN ⟨ser, cnt, prd, fst, lft, tdy, lif, at_, tag⟩ = putsN (bodyL ⟨ser, cnt, prd, fst, lft, tdy, lif, at_, tag⟩)) := rfl
  obtain ⟨bl, hbl⟩ : ∃ bl, bodyL ⟨ser, cnt, prd, fst, lft, tdy, lif, at_, tag⟩ = bl := ⟨_, rfl⟩
  rw [hbl] at HIdx HBd HBl HBn
  have HBe := Lib.hid hbl
  clear hbl
  go_enter Try.func19, Try.ntmps19
  go_wp2_with fail
  go_loopw [3, 26] (fun v i wr => ∃ k : Nat, k ≤ 8 ∧ i = .int .i64 k ∧ OwnB wr w.heap.size v (putsN (bl.take k)) ∧ Below w.heap.size w wr) (fun _ i _ => 8 - (intOf i).toNat)
  case atStart => exact ⟨0, by omega, rfl, OwnB.nil _ _, (Below.refl _ _).alloc (Nat.le_refl _) _⟩
  case round =>
    obtain ⟨k, hk, rfl, hown, hbr⟩ := hrel
    obtain ⟨wo, rfl⟩ : ∃ wo : World, wo = wr := ⟨_, rfl⟩
    have HB := Lib.hid hbr
    have hsz := hbr.size
    have HLen : Hid ((putsN (bl.take k)).length ≤ 80) := by
      have h := putsN_len (bl.take k)
      have h' : (bl.take k).length ≤ 8 := by rw [List.length_take]; omega
      exact hide (by omega)
    obtain ⟨A, n, c, rfl, HN, hc1, hc2, hr⟩ := hown.nam
    have HO := Lib.hid hown
    have HRd := Lib.hid hr
    clear hown hbr hr hc1
    by_cases hlt : k < 8
    · have hidx := HIdx.out k hlt wo
      have HT := Lib.hid (putsN_next bl k (by rw [HBl.out]; exact hlt))
      have hzb := HBd.out (bl.getD k 0) (by simp [List.getElem?_eq_getElem (show k < bl.length by rw [HBl.out]; exact hlt)])
      generalize bl.getD k 0 = z at *
      go_wp2_with fail
      with_reducible refine (Put_any _ _ _ _ _ z z.toNat _ HRd.out (by have := HLen.out; have := HN.out; omega) (Nat.le_refl _) (by omega) rfl).mono ?_
      rintro e w3 ⟨v3, rfl, hown3, hb3⟩
      have HO3 : Hid (OwnB w3 w.heap.size v3 (putsN (bl.take (k + 1)))) := by
        show OwnB _ _ _ _
        rw [HT.out]
        exact hown3.mono hsz
      have HB3 := Lib.hid (HB.out.trans (hb3.mono hsz))
      clear hown3 hb3
      go_wp2_with fail
      go_roundw
      case rel => exact ⟨k + 1, by omega, by go_num, HO3.out, HB3.out⟩
      case measure => simp [intOf]; omega
    · obtain rfl : k = 8 := by omega
      go_wp2_with fail
      go_ret
      refine ⟨_, rfl, ?_, HB.out⟩
      have h := HO.out
      rw [List.take_of_length_le (by rw [HBl.out]; omega)] at h
      rw [HBn.out]
      exact h

set_option maxRecDepth 100000 in
set_option maxHeartbeats 1000000 in
theorem rbody_any (m : Med) (w : World) (h : RangeM m) :
    Calls Try.prog 20 #[.agg #[.int .i64 m.ser, .int .i64 m.cnt, .int .i64 m.prd, .int .i64 m.fst, .int .i64 m.lft, .int .i64 m.tdy, .int .i64 m.lif, .int .i64 m.at_, .int .u64 m.tag]] w fun e w' => ∃ v, e = .returned v ∧ OwnB w' w.heap.size v (bodyN m) ∧ Below w.heap.size w w' := by
  obtain ⟨ser, cnt, prd, fst, lft, tdy, lif, at_, tag⟩ := m
  obtain ⟨h1, h2, h3, h4, h5, h6, h7, h8, h9, h10, h11, h12, h13, h14, h15, h16⟩ := h
  simp only at h1 h2 h3 h4 h5 h6 h7 h8 h9 h10 h11 h12 h13 h14 h15 h16
  have HBd : Hid (∀ z ∈ bodyL ⟨ser, cnt, prd, fst, lft, tdy, lif, at_, tag⟩, 0 ≤ z ∧ z ≤ 20000001) := by
    intro z hz
    simp only [bodyL, List.mem_cons, List.not_mem_nil, or_false] at hz
    rcases hz with rfl | rfl | rfl | rfl | rfl | rfl | rfl | rfl <;> omega
  have HBl : Hid ((bodyL ⟨ser, cnt, prd, fst, lft, tdy, lif, at_, tag⟩).length = 8) := rfl
  have HBn : Hid (bodyN ⟨ser, cnt, prd, fst, lft, tdy, lif, at_, tag⟩ = putsN (bodyL ⟨ser, cnt, prd, fst, lft, tdy, lif, at_, tag⟩)) := rfl
  have HBv : Hid ((#[.int .i64 ser, .int .i64 cnt, .int .i64 prd, .int .i64 (fst + 1), .int .i64 lft, .int .i64 (tdy + 1), .int .i64 lif, .int .i64 (at_ + 1)] : Array Value).toList = (bodyL ⟨ser, cnt, prd, fst, lft, tdy, lif, at_, tag⟩).map (Value.int .i64)) := rfl
  obtain ⟨bl, hbl⟩ : ∃ bl, bodyL ⟨ser, cnt, prd, fst, lft, tdy, lif, at_, tag⟩ = bl := ⟨_, rfl⟩
  rw [hbl] at HBd HBl HBn HBv
  have HBe := Lib.hid hbl
  clear hbl
  go_enter Try.func20, Try.ntmps20
  go_wp2_with fail
  obtain ⟨w1, hw1⟩ : ∃ W, w.alloc (.cells #[.int .i64 ser, .int .i64 cnt, .int .i64 prd, .int .i64 fst, .int .i64 lft, .int .i64 tdy, .int .i64 lif, .int .i64 at_, .int .u64 tag] 24) = W := ⟨_, rfl⟩
  have hs1 : w.heap.size + 1 = w1.heap.size := by rw [← hw1]; simp
  have hbb1 : Below w.heap.size w w1 := by rw [← hw1]; exact (Below.refl _ _).alloc (Nat.le_refl _) _
  rw [hw1, hs1]
  have HB1 : Hid (Below w.heap.size w (w1.alloc (.cells #[.int .i64 ser, .int .i64 cnt, .int .i64 prd, .int .i64 (fst + 1), .int .i64 lft, .int .i64 (tdy + 1), .int .i64 lif, .int .i64 (at_ + 1)] 3))) := hide (hbb1.alloc (by omega) _)
  have HI1 : Hid (Ints (w1.alloc (.cells #[.int .i64 ser, .int .i64 cnt, .int .i64 prd, .int .i64 (fst + 1), .int .i64 lft, .int .i64 (tdy + 1), .int .i64 lif, .int .i64 (at_ + 1)] 3)) (w1.alloc (.cells #[.int .i64 ser, .int .i64 cnt, .int .i64 prd, .int .i64 (fst + 1), .int .i64 lft, .int .i64 (tdy + 1), .int .i64 lif, .int .i64 (at_ + 1)] 3)).heap.size (some ⟨w1.heap.size, 0, none⟩) 8 bl) := by
    exact hide (ints_new w1 _ _ bl 8 HBv.out HBl.out)
  obtain ⟨w2, hw2⟩ : ∃ W, w1.alloc (.cells #[.int .i64 ser, .int .i64 cnt, .int .i64 prd, .int .i64 (fst + 1), .int .i64 lft, .int .i64 (tdy + 1), .int .i64 lif, .int .i64 (at_ + 1)] 3) = W := ⟨_, rfl⟩
  rw [hw2] at HB1 HI1 ⊢
  clear hw1 hw2 hbb1
  go_loopw [4, 5] (fun v i wr => ∃ k : Nat, k ≤ 8 ∧ i = .int .i64 k ∧ OwnB wr w2.heap.size v (putsN (bl.take k)) ∧ Below w2.heap.size w2 wr) (fun _ i _ => 8 - (intOf i).toNat)
  case atStart => exact ⟨0, by omega, rfl, OwnB.nil _ _, Below.refl _ _⟩
  case round =>
    obtain ⟨k, hk, rfl, hown, hbr⟩ := hrel
    obtain ⟨wo, rfl⟩ : ∃ wo : World, wo = wr := ⟨_, rfl⟩
    have HB := Lib.hid hbr
    have hsz := hbr.size
    have HLen : Hid ((putsN (bl.take k)).length ≤ 80) := by
      have h := putsN_len (bl.take k)
      have h' : (bl.take k).length ≤ 8 := by rw [List.length_take]; omega
      exact hide (by omega)
    obtain ⟨A, n, c, rfl, HN, hc1, hc2, hr⟩ := hown.nam
    have HO := Lib.hid hown
    have HRd := Lib.hid hr
    clear hown hbr hr hc1
    by_cases hlt : k < 8
    · obtain ⟨ad, had, _, hc⟩ := (HI1.out.now HB.out).int hlt
      injection had with had
      subst had
      have hc' : wo.cell? ⟨w1.heap.size, k, none⟩ = some (.int .i64 (bl.getD k 0)) := by
        have e : (⟨w1.heap.size, 0, none⟩ : Addr).add k = ⟨w1.heap.size, k, none⟩ := by unfold Addr.add; split <;> simp_all
        rwa [e] at hc
      have HT := Lib.hid (putsN_next bl k (by rw [HBl.out]; exact hlt))
      have hzb := HBd.out (bl.getD k 0) (by simp [List.getElem?_eq_getElem (show k < bl.length by rw [HBl.out]; exact hlt)])
      clear hc
      generalize bl.getD k 0 = z at *
      go_wp2_with fail
      with_reducible refine (rPut_any _ _ _ _ _ z z.toNat _ HRd.out (by have := HLen.out; have := HN.out; omega) (Nat.le_refl _) (by omega) rfl).mono ?_
      rintro e w3 ⟨v3, rfl, hown3, hb3⟩
      have HO3 : Hid (OwnB w3 w2.heap.size v3 (putsN (bl.take (k + 1)))) := by
        show OwnB _ _ _ _
        rw [HT.out]
        exact hown3.mono hsz
      have HB3 := Lib.hid (HB.out.trans (hb3.mono hsz))
      clear hown3 hb3
      go_wp2_with fail
      go_roundw
      case rel => exact ⟨k + 1, by omega, by go_num, HO3.out, HB3.out⟩
      case measure => simp [intOf]; omega
    · obtain rfl : k = 8 := by omega
      go_wp2_with fail
      go_ret
      refine ⟨_, rfl, ?_, HB1.out.trans (HB.out.mono HB1.out.size)⟩
      have h := HO.out
      rw [List.take_of_length_le (by rw [HBl.out]; omega)] at h
      rw [HBn.out]
      exact h.mono HB1.out.size
end Go.Proofs.Ythlhphifibldnaa
