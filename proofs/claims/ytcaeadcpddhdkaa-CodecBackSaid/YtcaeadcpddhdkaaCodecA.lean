/-
  The comparison of lists, and the examples of chapter 3.
-/
import Derived.Test.YtcaeadcpddhdkaaCodecV
import Derived.Test.YtcaeadcpddhdkaaCodecT
import Derived.Test.YtcaeadcpddhdkaaCodecL
import Derived.Lib.SlBytesConst
namespace Go.Proofs.Ytcaeadcpddhdkaa
open Go.RowKit

theorem take_eq_succ (l l' : List Int) (k : Nat) (h : k < l.length) (h' : k < l'.length) (e : l.take k = l'.take k) (e2 : l.getD k 0 = l'.getD k 0) : l.take (k + 1) = l'.take (k + 1) := by
  rw [List.take_succ_eq_append_getElem h, List.take_succ_eq_append_getElem h', e]
  have e3 : l[k] = l'[k] := by simpa [List.getElem?_eq_getElem h, List.getElem?_eq_getElem h'] using e2
  rw [e3]

set_option maxHeartbeats 400000 in
theorem samel_any (b : Bool) (A A' : Option Addr) (n c n' c' B B' : Nat) (l l' : List Int) (w : World) (hr : Ints w B A n l) (hr' : Ints w B' A' n' l') (hn : n ≤ maxLen) (hb : decide (l = l') = b) :
    Calls Try.prog 31 #[.slice A n c, .slice A' n' c'] w fun e w' => e = .returned (.bool b) ∧ ∃ m, w' = w.drewN m := by
  unfold maxLen at hn
  have HL := Lib.hid hr.ilen
  have HL' := Lib.hid hr'.ilen
  have HR := Lib.hid hr
  have HR' := Lib.hid hr'
  have HB := Lib.hid hb
  clear hr hr' hb
  by_cases hlen : n = n'
  · subst hlen
    go_enter Try.func31, Try.ntmps31
    go_wp2_with fail
    go_loopw [5] (fun i wr => ∃ k m : Nat, k ≤ n ∧ i = .int .i64 k ∧ l.take k = l'.take k ∧ wr = w.drewN m) (fun i _ => n - (intOf i).toNat)
    case atStart => exact ⟨0, 0, by omega, rfl, by simp, rfl⟩
    case round =>
      obtain ⟨k, m, hk, rfl, heq, rfl⟩ := hrel
      have HE := Lib.hid heq
      clear heq
      by_cases hlt : k < n
      · obtain ⟨ad, rfl, _, hc⟩ := HR.out.int hlt
        obtain ⟨ad', rfl, _, hc'⟩ := HR'.out.int hlt
        have HS := Lib.hid (take_eq_succ l l' k (by rw [HL.out]; exact hlt) (by rw [HL'.out]; exact hlt) HE.out)
        have HD : Hid (l = l' → l.getD k 0 = l'.getD k 0) := fun e => by rw [e]
        generalize hx : l.getD k 0 = x at *
        generalize hy : l'.getD k 0 = y at *
        have HX := Lib.hid hx
        have HY := Lib.hid hy
        clear hx hy
        by_cases he : x = y
        · have hbn : (x != y) = false := by rw [bne_eq_false_iff_eq]; exact he
          have HE2 := Lib.hid he
          clear he
          go_wp2_with fail
          go_quiet (fail)
          go_wp2_with fail
          go_roundw
          case rel => exact ⟨k + 1, _, by omega, by go_num, HS.out HE2.out, by first | rfl | exact World.drewN_drewN _ _ _⟩
          case measure => simp [intOf]; omega
        · have hbn : (x != y) = true := by rw [bne_iff_ne]; exact he
          have HE2 := Lib.hid he
          clear he
          go_wp2_with fail
          go_quiet (fail)
          go_wp2_with fail
          go_ret
          exact ⟨ret_b (by rw [← HB.out]; symm; rw [decide_eq_false_iff_not]; exact fun e => HE2.out (HD.out e)), _, by first | rfl | exact World.drewN_drewN _ _ _⟩
      · obtain rfl : n = k := by omega
        go_wp2_with fail
        go_ret
        refine ⟨ret_b ?_, _, rfl⟩
        rw [← HB.out]
        symm
        rw [decide_eq_true_eq]
        have := HE.out
        rwa [List.take_of_length_le (by rw [HL.out]; omega), List.take_of_length_le (by rw [HL'.out]; omega)] at this
  · have hbn : ((n : Int) != (n' : Int)) = true := by rw [bne_iff_ne]; omega
    go_enter Try.func31, Try.ntmps31
    go_wp2_with fail
    go_ret
    refine ⟨ret_b ?_, 0, rfl⟩
    rw [← HB.out]
    symm
    rw [decide_eq_false_iff_not]
    intro e
    have h1 := HL.out
    have h2 := HL'.out
    rw [e, h2] at h1
    exact hlen h1.symm

/-! ### calls with literals -/
theorem lit_bytes (W : World) (cs : Array Value) (l : List UInt8) (n : Nat) (hcs : cs.toList = l.map B8) (hn : l.length = n) (t : TypeId) : Bytes (W.alloc (.cells cs t)) (W.alloc (.cells cs t)).heap.size (some ⟨W.heap.size, 0, none⟩) n l := by
  have h := Reads.bnew W t cs l n hcs hn
  have e : (W.alloc (.cells cs t)).heap.size = W.heap.size + 1 := by simp
  rw [e]
  exact h
theorem get_lit (W : World) (cs : Array Value) (l : List UInt8) (n N K E : Nat) (hcs : cs.toList = l.map B8) (hn : l.length = n) (hT : getN l = (N, K, E)) :
    Calls Try.prog 12 #[.slice (some ⟨W.heap.size, 0, none⟩) n n] (W.alloc (.cells cs 5)) fun e w' => e = .returned (.tuple #[.int .i64 (N : Int), .int .i64 (K : Int), .int .i64 (E : Int)]) ∧ Below W.heap.size W w' := by
  refine (get_any N K E _ _ _ _ l _ (lit_bytes W cs l n hcs hn _) hT).mono ?_
  rintro e w' ⟨rfl, rfl⟩
  exact ⟨rfl, (Below.refl _ _).alloc (Nat.le_refl _) _⟩
theorem unf_lit (W : World) (cs : Array Value) (l body : List UInt8) (n k e : Nat) (hcs : cs.toList = l.map B8) (hn : l.length = n) (hn2 : n ≤ 1000) (hT : unfG l = (body, k, e)) :
    Calls Try.prog 21 #[.slice (some ⟨W.heap.size, 0, none⟩) n n] (W.alloc (.cells cs 5)) fun e' w' => ∃ v, e' = .returned (.tuple #[v, .int .i64 (k : Int), .int .i64 (e : Int)]) ∧ Below W.heap.size W w' := by
  refine (unf_any _ _ _ l body k e _ (lit_bytes W cs l n hcs hn _) (by omega) (Nat.le_refl _) (by simp only [maxLen]; omega) hT).mono ?_
  rintro e' w' ⟨v, rfl, _, hb⟩
  exact ⟨v, rfl, below_alloc_of hb⟩
theorem lit_marked (W : World) (cs : Array Value) (l : List UInt8) (n : Nat) (hcs : cs.toList = l.map B8) (hn : l.length = n) (t : TypeId) (fr : Nat × Nat) : Bytes (W.alloc (.cells cs t fr)) (W.alloc (.cells cs t fr)).heap.size (some ⟨W.heap.size, 0, none⟩) n l := by
  have e : (W.alloc (.cells cs t fr)).heap.size = W.heap.size + 1 := by simp
  rw [e]
  refine ⟨by simp [hn], fun _ => ⟨_, rfl, by simp, fun j u hu => ?_⟩⟩
  have hadd : (⟨W.heap.size, 0, none⟩ : Addr).add j = ⟨W.heap.size, j, none⟩ := by unfold Addr.add; split <;> simp_all
  rw [hadd, cell_of_row _ _ j cs t fr (heap_alloc_new W _), ← hu, ← hcs]
  simp
theorem sum_lit (W : World) (cs : Array Value) (l : List UInt8) (n s : Nat) (fr : Nat × Nat) (hcs : cs.toList = l.map B8) (hn : l.length = n) (hn2 : n ≤ 1000) (hT : sumN l = s) :
    Calls Try.prog 17 #[.slice (some ⟨W.heap.size, 0, none⟩) n n] (W.alloc (.cells cs 5 fr)) fun e' w' => e' = .returned (.int .u32 (s : Int)) ∧ Below W.heap.size W w' := by
  refine (sum_any _ _ _ l s _ (lit_marked W cs l n hcs hn _ _) (by omega) hT).mono ?_
  rintro e' w' ⟨rfl, hb⟩
  exact ⟨rfl, below_alloc_of hb⟩
theorem same_lit (W : World) (base : Nat) (A : Option Addr) (cs : Array Value) (l : List UInt8) (n c : Nat) (hcs : cs.toList = l.map B8) (h : OwnB W base (.slice A n c) l) (hn : l.length = n) :
    Calls Try.prog 14 #[.slice A n c, .slice (some ⟨W.heap.size, 0, none⟩) n n] (W.alloc (.cells cs 5)) fun e' w' => e' = .returned (.bool true) ∧ Below W.heap.size W w' := by
  have h1 : Bytes W W.heap.size A n l := by
    obtain ⟨A', c', hv, _, _, hr⟩ := h.open_
    injection hv with e1 e2 e3
    subst e1
    rw [← e2] at hr
    exact hr
  refine (sameb_any true _ _ _ _ _ _ _ _ l l _ (h1.alloc (Nat.le_refl _) _) (lit_bytes W cs l n hcs hn _) (by simp)).mono ?_
  rintro e' w' ⟨rfl, rfl⟩
  exact ⟨rfl, (Below.refl _ _).alloc (Nat.le_refl _) _⟩
theorem plist_lit (W : World) (cs : Array Value) (l : List Int) (n : Nat) (hcs : cs.toList = l.map (Value.int .i64)) (hn : l.length = n) (hn2 : n ≤ 1000) (hw : ∀ z ∈ l, (Lit.int .i64 z).wf = true) :
    Calls Try.prog 24 #[.slice none 0 0, .slice (some ⟨W.heap.size, 0, none⟩) n n] (W.alloc (.cells cs 3)) fun e w' => ∃ v, e = .returned v ∧ OwnB w' W.heap.size v (listP l) ∧ Below W.heap.size W w' := by
  have hr : Ints (W.alloc (.cells cs 3)) (W.alloc (.cells cs 3)).heap.size (some ⟨W.heap.size, 0, none⟩) n l := by
    have h := Reads.new W 3 cs 1 n (by rw [← Array.length_toList, hcs]; simp [hn])
    rw [hcs] at h
    have e : (W.alloc (.cells cs 3)).heap.size = W.heap.size + 1 := by simp
    rw [e]
    exact h
  refine (plist_any none 0 0 [] _ _ _ l _ Reads.empty (by omega) hr (by omega) hw).mono ?_
  rintro e w' ⟨v, rfl, ho, hb⟩
  exact ⟨v, rfl, by simpa using ho.mono (by simp), below_alloc_of hb⟩
theorem own_len {w : World} {base : Nat} {v : Value} {l : List UInt8} (h : OwnB w base v l) (n : Nat) (hn : l.length = n) : ∃ A c, v = .slice A n c ∧ OwnB w base (.slice A n c) l := by
  obtain ⟨A, c, rfl, _⟩ := h.open_
  subst hn
  exact ⟨A, c, rfl, h⟩

set_option maxRecDepth 100000 in
set_option maxHeartbeats 1000000 in
theorem alive_any (w : World) :
    Calls Try.prog 11 #[] w fun e w' => e = .returned (.bool true) ∧ Below w.heap.size w w' := by
  have q := fun (w : World) (C : Array Value) (n c : Nat) => Lib.run_convert_bytes_const (P := Try.prog) w 22 5 C n c Try.underlying22 Try.underlying5
  go_enter Try.func11, Try.ntmps11
  go_wp2_with fail
  refine (get_lit w _ [172, 2] 2 300 2 0 rfl rfl (by decide +kernel)).mono ?_
  rintro e w1 ⟨rfl, hb1⟩
  have HB1 := Lib.hid hb1
  clear hb1
  go_wp2_with fail
  refine (get_lit w1 _ [128, 0] 2 0 0 3 rfl rfl (by decide +kernel)).mono ?_
  rintro e w2 ⟨rfl, hb2⟩
  have HB2 := Lib.hid (HB1.out.trans (hb2.mono HB1.out.size))
  clear hb2
  go_wp2_with fail
  refine (get_lit w2 _ [128] 1 0 0 5 rfl rfl (by decide +kernel)).mono ?_
  rintro e w3 ⟨rfl, hb3⟩
  have HB3 := Lib.hid (HB2.out.trans (hb3.mono HB2.out.size))
  clear hb3
  go_wp2_with fail
  refine (unf_lit w3 _ [1, 0, 0, 0, 0, 0] [] 6 0 6 rfl rfl (by omega) (by decide +kernel)).mono ?_
  rintro e w4 ⟨v4, rfl, hb4⟩
  have HB4 := Lib.hid (HB3.out.trans (hb4.mono HB3.out.size))
  clear hb4
  go_wp2_with fail
  refine (Put_any none 0 0 0 [] 300 300 w4 Reads.empty (by omega) (Nat.zero_le _) (by omega) (by decide)).mono ?_
  rintro e w5 ⟨v5, rfl, hown5, hb5⟩
  have HB5 := Lib.hid (HB4.out.trans (hb5.mono HB4.out.size))
  obtain ⟨A5, c5, rfl, ho5⟩ := own_len hown5 2 (by decide +kernel)
  have HO5 := Lib.hid ho5
  clear hb5 hown5 ho5
  go_wp2_with fail
  refine (same_lit w5 _ _ _ ([] ++ putN 300) 2 _ (by kernel_rfl) HO5.out (by decide +kernel)).mono ?_
  rintro e w6 ⟨rfl, hb6⟩
  have HB6 := Lib.hid (HB5.out.trans (hb6.mono HB5.out.size))
  clear hb6
  go_wp2_with fail
  refine (ptext_any none 0 0 0 [] _ w6 Reads.empty (by omega) (by decide) (Nat.zero_le _)).mono ?_
  rintro e w7 ⟨v7, rfl, hown7, hb7⟩
  have HB7 := Lib.hid (HB6.out.trans (hb7.mono HB6.out.size))
  obtain ⟨A7, c7, rfl, ho7⟩ := own_len hown7 3 (by decide +kernel)
  have HO7 := Lib.hid ho7
  clear hb7 hown7 ho7
  go_wp2_with fail
  refine (same_lit w7 _ _ _ _ 3 _ (by kernel_rfl) HO7.out (by decide +kernel)).mono ?_
  rintro e w8 ⟨rfl, hb8⟩
  have HB8 := Lib.hid (HB7.out.trans (hb8.mono HB7.out.size))
  clear hb8
  go_wp2_with fail
  refine (plist_lit w8 _ [1, 300] 2 rfl rfl (by omega) (by decide)).mono ?_
  rintro e w9 ⟨v9, rfl, hown9, hb9⟩
  have HB9 := Lib.hid (HB8.out.trans (hb9.mono HB8.out.size))
  obtain ⟨A9, c9, rfl, ho9⟩ := own_len hown9 4 (by decide +kernel)
  have HO9 := Lib.hid ho9
  clear hb9 hown9 ho9
  go_wp2_with fail
  refine (same_lit w9 _ _ _ _ 4 _ (by kernel_rfl) HO9.out (by decide +kernel)).mono ?_
  rintro e w10 ⟨rfl, hb10⟩
  have HB10 := Lib.hid (HB9.out.trans (hb10.mono HB9.out.size))
  clear hb10
  go_wp2_with fail
  refine (sum_lit w10 _ [49, 50, 51, 52, 53, 54, 55, 56, 57] 9 3808858755 _ rfl rfl (by omega) (by decide +kernel)).mono ?_
  rintro e w11 ⟨rfl, hb11⟩
  have HB11 := Lib.hid (HB10.out.trans (hb11.mono HB10.out.size))
  clear hb11
  go_wp2_with fail
  refine (sum_any none 0 0 [] 0 w11 Reads.empty (by omega) (by decide +kernel)).mono ?_
  rintro e w12 ⟨rfl, hb12⟩
  have HB12 := Lib.hid (HB11.out.trans (hb12.mono HB11.out.size))
  clear hb12
  go_wp2_with fail
  refine (frame_any none 0 0 [] w12 Reads.empty (by omega)).mono ?_
  rintro e w13 ⟨v13, rfl, hown13, hb13⟩
  have HB13 := Lib.hid (HB12.out.trans (hb13.mono HB12.out.size))
  obtain ⟨A13, c13, rfl, ho13⟩ := own_len hown13 5 (by decide +kernel)
  have HO13 := Lib.hid ho13
  clear hb13 hown13 ho13
  go_wp2_with fail
  refine (same_lit w13 _ _ _ _ 5 _ (by kernel_rfl) HO13.out (by decide +kernel)).mono ?_
  rintro e w14 ⟨rfl, hb14⟩
  have HB14 := Lib.hid (HB13.out.trans (hb14.mono HB13.out.size))
  clear hb14
  go_wp2_with fail
  go_ret
  exact ⟨rfl, HB14.out⟩
end Go.Proofs.Ytcaeadcpddhdkaa
