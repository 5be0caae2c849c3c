/-
  Lists of chapter 3 and of its reference, walked.
-/
import Derived.Test.YtedeggjefnpjgaaDvB
import Derived.Test.YtedeggjefnpjgaaMat
namespace Go.Proofs.Ytedeggjefnpjgaa

section
open Go.RowKit

theorem ei_ints : EInfo Try.prog 24 3 1 8 := EInfo.mk' Try.underlying24 (z := .int .i64 0) (by kernel_rfl) rfl (by omega)
/-- a row of ints of the call's own -/
def OwnI (w : World) (base : Nat) (v : Value) (l : List Int) : Prop := w.ownsRow base 3 1 v l.length (l.map (Value.int .i64))
theorem OwnI.open_ {w : World} {base : Nat} {v : Value} {l : List Int} (h : OwnI w base v l) : ∃ A c, v = .slice A l.length c ∧ l.length ≤ c ∧ c ≤ maxLen ∧ Ints w w.heap.size A l.length l := own_open h
theorem OwnI.nam {w : World} {base : Nat} {v : Value} {l : List Int} (h : OwnI w base v l) : ∃ A n c, v = .slice A n c ∧ Hid (l.length = n) ∧ n ≤ c ∧ c ≤ maxLen ∧ Ints w w.heap.size A n l := by
  obtain ⟨A, c, h1, h2, h3, h4⟩ := h.open_
  exact ⟨A, _, c, h1, hide rfl, h2, h3, h4⟩
theorem OwnI.nil (w : World) (base : Nat) : OwnI w base (.slice none 0 0) [] := World.ownsRow_nil _ _ _ _
theorem OwnI.mk' {w : World} {base n : Nat} {v : Value} {l : List Int} {xs : List Value} (h : w.ownsRow base 3 1 v n xs) (hn : n = l.length) (hx : xs = l.map (Value.int .i64)) : OwnI w base v l := by
  subst hn
  subst hx
  exact h
theorem OwnI.row {w : World} {base n : Nat} {v : Value} {l : List Int} (h : OwnI w base v l) (hn : l.length = n) : w.ownsRow base 3 1 v n (l.map (Value.int .i64)) := by
  subst hn
  exact h
theorem i64_bd {z : Int} (h : (Lit.int .i64 z).wf = true) : -9223372036854775808 ≤ z ∧ z ≤ 9223372036854775807 := by
  have h2 : IntKind.i64.min ≤ z ∧ z ≤ IntKind.i64.max := by simpa [Lit.wf] using h
  exact h2

set_option maxRecDepth 100000 in
set_option maxHeartbeats 400000 in
theorem plist_any (A : Option Addr) (n c : Nat) (b : List UInt8) (A' : Option Addr) (n' c' : Nat) (l : List Int) (w : World) (hr : Bytes w w.heap.size A n b) (hn : n ≤ 100000) (hr' : Ints w w.heap.size A' n' l) (hn' : n' ≤ 100000) (hw : ∀ z ∈ l, (Lit.int .i64 z).wf = true) :
    Calls Try.prog 24 #[.slice A n c, .slice A' n' c'] w fun e w' => ∃ v, e = .returned v ∧ OwnB w' w.heap.size v (b ++ listP l) ∧ Below w.heap.size w w' := by
  have HR := Lib.hid hr
  have HL := Lib.hid hr.blen
  have HR' := Lib.hid hr'
  have HL' := Lib.hid hr'.ilen
  have HW := Lib.hid hw
  have hpl := putN_len n'
  clear hr hr' hw
  go_enter Try.func24, Try.ntmps24
  go_wp2_with fail
  with_reducible refine (Put_any _ _ _ _ _ (n' : Int) n' _ HR.out (by omega) (Nat.le_refl _) (by omega) (by simp)).mono ?_
  rintro e w2 ⟨v, rfl, hown, hb2⟩
  have HO := Lib.hid hown
  have HB2 := Lib.hid hb2
  clear hown hb2
  go_wp2_with fail
  go_loopw [5, 14] (fun v i wr => ∃ k : Nat, k ≤ n' ∧ i = .int .i64 k ∧ OwnB wr w.heap.size v (b ++ (putN n' ++ putsN (l.take k))) ∧ Below w.heap.size w wr) (fun _ i _ => n' - (intOf i).toNat)
  case atStart => exact ⟨0, by omega, rfl, by simpa [putsN] using HO.out, HB2.out⟩
  case round =>
    obtain ⟨k, hk, rfl, hown, hbr⟩ := hrel
    obtain ⟨wo, rfl⟩ : ∃ wo : World, wo = wr := ⟨_, rfl⟩
    have HOk := Lib.hid hown
    have HBk := Lib.hid hbr
    have hsz := hbr.size
    have HLen : Hid ((b ++ (putN n' ++ putsN (l.take k))).length ≤ 2000000) := by
      have h1 := putsN_len (l.take k)
      have h2 : (l.take k).length ≤ n' := by rw [List.length_take]; have := HL'.out; omega
      have h3 := HL.out
      simp only [List.length_append]
      exact hide (by omega)
    obtain ⟨Ak, ck, rfl, hck1, hck2, hrk⟩ := hown.open_
    have HRk := Lib.hid hrk
    clear hown hbr hrk hck1
    obtain ⟨L, hL⟩ : ∃ L, (b ++ (putN n' ++ putsN (l.take k))).length = L := ⟨_, rfl⟩
    have HLe := Lib.hid hL
    rw [hL] at HOk HRk HLen ⊢
    clear hL
    by_cases hlt : k < n'
    · obtain ⟨ad, rfl, _, hc⟩ := (HR'.out.below HBk.out).int hlt
      have hzb : -9223372036854775808 ≤ l.getD k 0 ∧ l.getD k 0 ≤ 9223372036854775807 := by
        have hm : l.getD k 0 ∈ l := by simp [List.getElem?_eq_getElem (show k < l.length by rw [HL'.out]; exact hlt)]
        exact i64_bd (HW.out _ hm)
      have HT : Hid (putsN (l.take (k + 1)) = putsN (l.take k) ++ putN (l.getD k 0).toNat) := by
        show _ = _
        rw [List.take_succ_eq_append_getElem (show k < l.length by rw [HL'.out]; exact hlt), putsN_append]
        simp [putsN, List.getElem?_eq_getElem (show k < l.length by rw [HL'.out]; exact hlt)]
      generalize l.getD k 0 = z at *
      go_wp2_with fail
      with_reducible refine (put_any w.heap.size _ _ z z.toNat _ hzb.2 rfl HOk.out hsz (by rw [HLe.out]; have := HLen.out; omega)).mono ?_
      rintro e w3 ⟨v3, rfl, hown3, hb3'⟩
      have hb3 := HBk.out.trans hb3'
      have HO3 : Hid (OwnB w3 w.heap.size v3 (b ++ (putN n' ++ putsN (l.take (k + 1))))) := by
        show OwnB _ _ _ _
        rw [HT.out]
        simpa [List.append_assoc] using hown3
      have HB3 := Lib.hid hb3
      clear hown3 hb3
      go_wp2_with fail
      go_roundw
      case rel => exact ⟨k + 1, by omega, by go_num, HO3.out, HB3.out⟩
      case measure => simp [intOf]; omega
    · obtain rfl : k = n' := by omega
      go_wp2_with fail
      go_ret
      refine ⟨_, rfl, ?_, HBk.out⟩
      have h := HOk.out
      rw [List.take_of_length_le (by rw [HL'.out]; omega)] at h
      rw [listP, HL'.out]
      exact h

set_option maxRecDepth 100000 in
set_option maxHeartbeats 1000000 in
theorem glist_any (A : Option Addr) (n c : Nat) (l : List UInt8) (t : List Nat) (k e : Nat) (w : World) (hr : Bytes w w.heap.size A n l) (hn : n ≤ 10000000) (hc : n ≤ c) (hc2 : c ≤ maxLen) (hT : listG l = (t, k, e)) :
    Calls Try.prog 19 #[.slice A n c] w fun e' w' => ∃ v, e' = .returned (.tuple #[v, .int .i64 (k : Int), .int .i64 (e : Int)]) ∧ OwnI w' w.heap.size v (toI t) ∧ Below w.heap.size w w' := by
  have HL := Lib.hid hr.blen
  have HR := Lib.hid hr
  unfold maxLen at hc2
  unfold listG at hT
  rcases getN_cases l with ⟨N, K, hg, hk1, hk9, hkl, hN, hp1, hp2⟩ | ⟨E, hg, hE, hp1⟩
  · rw [hg] at hT
    have hkn : K ≤ n := by rw [← hr.blen]; exact hkl
    have HG := Lib.hid hg
    clear hr hg hkl hp1 hp2
    simp only [ne_eq, not_true_eq_false, if_false] at hT
    by_cases h1 : 10000 < N
    · rw [if_pos h1] at hT
      simp only [Prod.mk.injEq] at hT
      obtain ⟨rfl, rfl, rfl⟩ := hT
      go_enter Try.func19, Try.ntmps19
      go_wp2_with fail
      with_reducible refine (get_any N K 0 _ _ _ _ _ _ HR.out HG.out).mono ?_
      rintro e w' ⟨rfl, rfl⟩
      go_wp2_with fail
      go_ret3
      exact ⟨_, rfl, OwnI.nil _ _, Below.refl _ _⟩
    · rw [if_neg h1] at hT
      have HT := Lib.hid hT
      clear hT
      have d1 : decide (10000 < (N : Int)) = false := by simp; omega
      have d2 : decide (10000 < N) = false := by simp; omega
      go_enter Try.func19, Try.ntmps19
      go_wp2_with fail
      with_reducible refine (get_any N K 0 _ _ _ _ _ _ HR.out HG.out).mono ?_
      rintro e w' ⟨rfl, rfl⟩
      go_wp2_with fail
      go_loopw [6, 8, 24] (fun p v i wr => ∃ (j m at_ : Nat) (out : List Nat), j + m = N ∧ i = .int .i64 (j : Int) ∧ p = .int .i64 (at_ : Int) ∧ at_ ≤ n ∧ out.length = j ∧ OwnI wr w.heap.size v (toI out) ∧ numsG l m at_ out = (t, k, e) ∧ Below w.heap.size w wr) (fun _ _ i _ => N - (intOf i).toNat)
      case atStart => exact ⟨0, N, K, [], by omega, rfl, rfl, hkn, rfl, OwnI.nil _ _, HT.out, Below.refl _ _⟩
      case round =>
        obtain ⟨j, m, at_, out, hjm, rfl, rfl, hat, hol, hown, hnums, hbr⟩ := hrel
        obtain ⟨wo, rfl⟩ : ∃ wo : World, wo = wr := ⟨_, rfl⟩
        have HNum := Lib.hid hnums
        have HB := Lib.hid hbr
        have HOl := Lib.hid hol
        have hsz := hbr.size
        have hjN : j ≤ N := by omega
        obtain ⟨A2, c2, rfl, hc21, hc22, _⟩ := hown.open_
        have hown' := hown.row (n := j) (by simp [toI, hol])
        have hlen2 : (toI out).length = j := by simp [toI, hol]
        rw [hlen2] at hown' hc21 ⊢
        have HO := Lib.hid hown'
        clear hnums hbr hol hown hown' hlen2
        by_cases hlt : j < N
        · obtain ⟨m, rfl⟩ : ∃ m', m = m' + 1 := ⟨m - 1, by omega⟩
          have HJM : Hid (j + 1 + m = N) := hide (by omega)
          clear hjm
          have HRt : Hid (Bytes wo wo.heap.size (if c = at_ then A else A.map (·.add at_)) (n - at_) (l.drop at_)) := by
            have h := Reads.bcut (HR.out.now HB.out) (k := at_) (m := n) (cap := c) hat (Nat.le_refl _) hc
            rw [List.take_of_length_le (by rw [List.length_drop, HL.out]; omega)] at h
            exact hide h
          have hN1 := HNum.out
          rw [numsG] at hN1
          have HLd : Hid ((l.drop at_).length = n - at_) := by show _ = _; rw [List.length_drop, HL.out]
          rcases getN_cases (l.drop at_) with ⟨X, Y, hg, hy1, hy9, hyl, hX, hp1, hp2⟩ | ⟨E, hg, hE, hp1⟩
          · rw [hg] at hN1
            rw [HLd.out] at hyl
            simp only [ne_eq, not_true_eq_false, if_false] at hN1
            have HN1 := Lib.hid hN1
            have HGx := Lib.hid hg
            have HSn : Hid ((toI out).map (Value.int .i64) ++ [.int .i64 (X : Int)] = (toI (out ++ [X])).map (Value.int .i64)) := hide (by simp [toI])
            have hyn : at_ + Y ≤ n := by omega
            clear hg hp1 hp2 hN1 hyl
            by_cases hce : c = at_
            · omega
            · have HRt2 := Lib.hid HRt.out
              rw [if_neg hce] at HRt2
              have hce2 : at_ < c := by omega
              clear hce
              go_wp2_with fail
              with_reducible refine (get_any X Y 0 _ _ _ _ _ _ HRt2.out HGx.out).mono ?_
              rintro e w' ⟨rfl, rfl⟩
              go_wp2_with
                (at_builtin
                 refine wpList_app _ ei_ints rfl (.tmp 37) (.tmp 39) rfl w.heap.size (.slice A2 j c2) j ((toI out).map (Value.int .i64)) rfl (HO.out.alloc _) (wo.heap.size + 1) (some ⟨wo.heap.size, 0, none⟩) 1 1 [.int .i64 (X : Int)] rfl (Reads.new wo 3 #[.int .i64 (X : Int)] 1 1 rfl) (by simp [Value.oneCell']) (by simp only [maxLen]; omega) (by omega) (by simp; omega) ?_
                 intro v4 w4 hown4 hg4 hbw4 hat4
                 have HO4 : Hid (OwnI w4 w.heap.size v4 (toI (out ++ [X]))) := by
                   rw [HSn.out] at hown4
                   exact OwnI.mk' hown4 (by simp [toI, HOl.out]) rfl
                 have HB4 : Hid (Below w.heap.size w w4) := (HB.out.alloc hsz _).trans hbw4
                 clear hown4 hg4 hbw4 hat4)
              go_roundw
              case rel => exact ⟨j + 1, m, at_ + Y, out ++ [X], HJM.out, by go_num, by go_num, hyn, by simp [HOl.out], HO4.out, HN1.out, HB4.out⟩
              case measure => simp [intOf]; omega
          · rw [hg, if_pos hE] at hN1
            simp only [Prod.mk.injEq] at hN1
            obtain ⟨rfl, rfl, rfl⟩ := hN1
            have HGx := Lib.hid hg
            have hb : ((E : Int) != 0) = true := by rw [bne_iff_ne]; omega
            clear hg hp1
            by_cases hce : c = at_
            · have HRt2 := Lib.hid HRt.out
              rw [if_pos hce] at HRt2
              have hb1 : (c == at_) = true := beq_iff_eq.2 hce
              have HCe := Lib.hid hce
              clear hce
              go_wp2_with fail
              with_reducible refine (get_any 0 0 E _ _ _ _ _ _ HRt2.out HGx.out).mono ?_
              rintro e w' ⟨rfl, rfl⟩
              go_wp2_with fail
              go_ret3
              exact ⟨_, rfl, OwnI.nil _ _, HB.out⟩
            · have HRt2 := Lib.hid HRt.out
              rw [if_neg hce] at HRt2
              have hce2 : at_ < c := by omega
              clear hce
              go_wp2_with fail
              with_reducible refine (get_any 0 0 E _ _ _ _ _ _ HRt2.out HGx.out).mono ?_
              rintro e w' ⟨rfl, rfl⟩
              go_wp2_with fail
              go_ret3
              exact ⟨_, rfl, OwnI.nil _ _, HB.out⟩
        · obtain rfl : j = N := by omega
          obtain rfl : m = 0 := by omega
          go_wp2_with fail
          go_ret3
          have h := HNum.out
          simp only [numsG, Prod.mk.injEq] at h
          obtain ⟨rfl, rfl, rfl⟩ := h
          exact ⟨_, rfl, OwnI.mk' HO.out (by simp [toI, HOl.out]) rfl, HB.out⟩
  · rw [hg] at hT
    have HG := Lib.hid hg
    have hb : ((E : Int) != 0) = true := by rw [bne_iff_ne]; omega
    clear hr hg hp1
    rw [if_pos hE] at hT
    simp only [Prod.mk.injEq] at hT
    obtain ⟨rfl, rfl, rfl⟩ := hT
    go_enter Try.func19, Try.ntmps19
    go_wp2_with fail
    with_reducible refine (get_any 0 0 E _ _ _ _ _ _ HR.out HG.out).mono ?_
    rintro e w' ⟨rfl, rfl⟩
    go_wp2_with fail
    go_ret3
    exact ⟨_, rfl, OwnI.nil _ _, Below.refl _ _⟩
end

end Go.Proofs.Ytedeggjefnpjgaa
