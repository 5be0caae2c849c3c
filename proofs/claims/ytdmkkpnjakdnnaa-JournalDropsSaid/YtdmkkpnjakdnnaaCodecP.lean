/-
  Put of chapter 3 and of its reference, Clone and the comparison of bytes, walked.
-/
import Derived.Test.YtdmkkpnjakdnnaaCodecG
import Derived.Laws.BytesArg
namespace Go.Proofs.Ytdmkkpnjakdnnaa
open Go.RowKit

theorem ei_byte : EInfo Try.prog 24 5 1 1 := EInfo.mk' Try.underlying24 (z := .int .u8 0) (by kernel_rfl) rfl (by omega)
/-- a row of bytes of the call's own -/
def OwnB (w : World) (base : Nat) (v : Value) (l : List UInt8) : Prop := w.ownsRow base 5 1 v l.length (l.map B8)
theorem OwnB.open_ {w : World} {base : Nat} {v : Value} {l : List UInt8} (h : OwnB w base v l) : ∃ A c, v = .slice A l.length c ∧ l.length ≤ c ∧ c ≤ maxLen ∧ Bytes w w.heap.size A l.length l := own_open h
theorem OwnB.nam {w : World} {base : Nat} {v : Value} {l : List UInt8} (h : OwnB w base v l) : ∃ A n c, v = .slice A n c ∧ Hid (l.length = n) ∧ n ≤ c ∧ c ≤ maxLen ∧ Bytes w w.heap.size A n l := by
  obtain ⟨A, c, h1, h2, h3, h4⟩ := h.open_
  exact ⟨A, _, c, h1, hide rfl, h2, h3, h4⟩
theorem OwnB.nil (w : World) (base : Nat) : OwnB w base (.slice none 0 0) [] := World.ownsRow_nil _ _ _ _
theorem OwnB.mono {w : World} {base base' : Nat} {v : Value} {l : List UInt8} (h : OwnB w base v l) (hB : base' ≤ base) : OwnB w base' v l := by
  refine ⟨h.1, ?_⟩
  rcases h.2 with h0 | ⟨g, cap, cur, h1, h2, h3⟩
  · exact .inl h0
  · exact .inr ⟨g, cap, cur, h1, by omega, h3⟩
theorem B8_of (x : Nat) (h : x < 256) : Value.int .u8 (x : Int) = B8 (UInt8.ofNat x) := by
  unfold B8
  rw [ofNat_toNat x h]
theorem or128_form (x : Nat) : bits .or .u8 ((x : Int) % 256) 128 = ((x % 128 + 128 : Nat) : Int) := by
  have e : (x : Int) % 256 = ((x % 256 : Nat) : Int) := by omega
  rw [e]
  have h := u8_or_nat (x % 256) 128 (Nat.mod_lt _ (by omega)) (by omega)
  have h2 : x % 256 ||| 128 = x % 128 + 128 := by
    have hx := Nat.mod_lt x (show 0 < 256 by omega)
    have hy : x % 128 = x % 256 % 128 := by omega
    rw [hy]
    generalize x % 256 = z at hx
    have key : ∀ z : Fin 256, z.val ||| 128 = z.val % 128 + 128 := by decide +kernel
    exact key ⟨z, hx⟩
  rw [h2] at h
  exact h

theorem OwnB.mk' {w : World} {base n : Nat} {v : Value} {l : List UInt8} {xs : List Value} (h : w.ownsRow base 5 1 v n xs) (hn : n = l.length) (hx : xs = l.map B8) : OwnB w base v l := by
  subst hn
  subst hx
  exact h
theorem snoc_map (l : List UInt8) (c : UInt8) (z : Int) (h : Value.int .u8 z = B8 c) : l.map B8 ++ [.int .u8 z] = (l ++ [c]).map B8 := by rw [h]; simp
theorem app_map (l r : List UInt8) : l.map B8 ++ r.map B8 = (l ++ r).map B8 := by simp

set_option maxRecDepth 100000 in
set_option maxHeartbeats 400000 in
theorem put_any (base : Nat) (v : Value) (b : List UInt8) (n : Int) (m : Nat) (w : World) (hn : n ≤ 9223372036854775807) (hm : n.toNat = m) (hown : OwnB w base v b) (hb : base ≤ w.heap.size) (hl : b.length ≤ 100000000) :
    Calls Try.prog 45 #[v, .int .i64 n] w fun e w' => ∃ v', e = .returned v' ∧ OwnB w' base v' (b ++ putN m) ∧ Below base w w' := by
  have HO := Lib.hid hown
  obtain ⟨A, c, rfl, hc1, hc2, _⟩ := hown.open_
  have hmb : m < 9223372036854775808 := by omega
  have hways : (n < 0 ∧ m = 0) ∨ (¬ n < 0 ∧ n = (m : Int)) := by omega
  clear hown hm
  rcases hways with ⟨h1, rfl⟩ | ⟨h1, rfl⟩
  · go_enter Try.func45, Try.ntmps45
    go_wp2_with fail
    go_loopw [0, 1] (fun v i wr => ∃ (x : Nat) (d : List UInt8), x < 9223372036854775808 ∧ i = .int .i64 (x : Int) ∧ d ++ putN x = putN 0 ∧ d.length ≤ 10 ∧ OwnB wr base v (b ++ d) ∧ Below base w wr) (fun _ i _ => (intOf i).toNat)
    case atStart => exact ⟨0, [], by omega, rfl, rfl, by simp, by rw [List.append_nil]; exact HO.out, Below.refl _ _⟩
    case round =>
      obtain ⟨x, d, hx, rfl, hd, hdl, hown, hbr⟩ := hrel
      obtain ⟨wo, rfl⟩ : ∃ wo : World, wo = wr := ⟨_, rfl⟩
      have HOr := Lib.hid hown
      obtain ⟨A2, c2, rfl, hc21, hc22, _⟩ := hown.open_
      have HD := Lib.hid hd
      have hbs := hbr.size
      have hll : (b ++ d).length ≤ 100000010 := by simp; omega
      generalize hL : (b ++ d).length = L at *
      have HL := Lib.hid hL
      have HOr2 : Hid (wo.ownsRow base 5 1 (.slice A2 L c2) L ((b ++ d).map B8)) := by
        have h := HOr.out
        unfold OwnB at h
        rw [HL.out] at h
        exact hide h
      clear hown hd hL
      by_cases h128 : x < 128
      · have HLow : Hid (Value.int .u8 (x : Int) = B8 (UInt8.ofNat x)) := hide (B8_of x (by omega))
        have HP := Lib.hid (putN_low x h128)
        go_wp2_with
          (at_builtin
           refine wpList_app _ ei_byte rfl (.tmp 17) (.tmp 20) rfl base (.slice A2 L c2) L ((b ++ d).map B8) rfl (HOr2.out.alloc _) (wo.heap.size + 1) (some ⟨wo.heap.size, 0, none⟩) 1 1 [.int .u8 (x : Int)] rfl (Reads.new wo 5 #[.int .u8 (x : Int)] 1 1 rfl) (by simp [Value.oneCell']) (by simp only [maxLen]; omega) (by omega) (by simp; omega) ?_
           intro v4 w4 hown4 hg4 hbw4 hat4
           have HO4 : Hid (OwnB w4 base v4 (b ++ putN 0)) := by
             rw [snoc_map _ _ _ HLow.out] at hown4
             exact OwnB.mk' hown4 (by rw [← HD.out, HP.out, ← HL.out]; simp; omega) (by rw [← HD.out, HP.out, List.append_assoc])
           have HB4 : Hid (Below base w w4) := (hbr.alloc (by omega) _).trans hbw4
           clear hown4 hg4 hbw4 hat4)
        go_ret
        exact ⟨_, rfl, HO4.out, HB4.out⟩
      · have HF : Hid (Value.int .u8 (bits .or .u8 ((x : Int) % 256) 128) = B8 (UInt8.ofNat (x % 128 + 128))) := by show _ = _; rw [or128_form x, B8_of _ (by omega)]
        have HP := Lib.hid (putN_step x h128 hx)
        go_wp2_with
          (at_builtin
           refine wpList_app _ ei_byte rfl (.tmp 9) (.tmp 13) rfl base (.slice A2 L c2) L ((b ++ d).map B8) rfl (HOr2.out.alloc _) (wo.heap.size + 1) (some ⟨wo.heap.size, 0, none⟩) 1 1 [.int .u8 (bits .or .u8 ((x : Int) % 256) 128)] rfl (Reads.new wo 5 #[.int .u8 (bits .or .u8 ((x : Int) % 256) 128)] 1 1 rfl) (by simp [Value.oneCell']) (by simp only [maxLen]; omega) (by omega) (by simp; omega) ?_
           intro v4 w4 hown4 hg4 hbw4 hat4
           have HO4 : Hid (OwnB w4 base v4 (b ++ (d ++ [UInt8.ofNat (x % 128 + 128)]))) := by
             rw [snoc_map _ _ _ HF.out] at hown4
             exact OwnB.mk' hown4 (by rw [← HL.out]; simp; omega) (by rw [List.append_assoc])
           have HB4 : Hid (Below base w w4) := (hbr.alloc (by omega) _).trans hbw4
           clear hown4 hg4 hbw4 hat4)
        go_roundw
        case rel =>
          have hd2 : (d ++ [UInt8.ofNat (x % 128 + 128)]) ++ putN (x / 128) = putN 0 := by rw [← HD.out, HP.out]; simp
          refine ⟨x / 128, d ++ [UInt8.ofNat (x % 128 + 128)], by omega, by go_num, hd2, ?_, HO4.out, HB4.out⟩
          have h1 := congrArg List.length hd2
          have h2 := putN_len 0
          rw [List.length_append] at h1
          omega
        case measure => simp [intOf]; omega
  · go_enter Try.func45, Try.ntmps45
    go_wp2_with fail
    go_loopw [0, 1] (fun v i wr => ∃ (x : Nat) (d : List UInt8), x < 9223372036854775808 ∧ i = .int .i64 (x : Int) ∧ d ++ putN x = putN m ∧ d.length ≤ 10 ∧ OwnB wr base v (b ++ d) ∧ Below base w wr) (fun _ i _ => (intOf i).toNat)
    case atStart => exact ⟨m, [], by omega, rfl, rfl, by simp, by rw [List.append_nil]; exact HO.out, Below.refl _ _⟩
    case round =>
      obtain ⟨x, d, hx, rfl, hd, hdl, hown, hbr⟩ := hrel
      obtain ⟨wo, rfl⟩ : ∃ wo : World, wo = wr := ⟨_, rfl⟩
      have HOr := Lib.hid hown
      obtain ⟨A2, c2, rfl, hc21, hc22, _⟩ := hown.open_
      have HD := Lib.hid hd
      have hbs := hbr.size
      have hll : (b ++ d).length ≤ 100000010 := by simp; omega
      generalize hL : (b ++ d).length = L at *
      have HL := Lib.hid hL
      have HOr2 : Hid (wo.ownsRow base 5 1 (.slice A2 L c2) L ((b ++ d).map B8)) := by
        have h := HOr.out
        unfold OwnB at h
        rw [HL.out] at h
        exact hide h
      clear hown hd hL
      by_cases h128 : x < 128
      · have HLow : Hid (Value.int .u8 (x : Int) = B8 (UInt8.ofNat x)) := hide (B8_of x (by omega))
        have HP := Lib.hid (putN_low x h128)
        go_wp2_with
          (at_builtin
           refine wpList_app _ ei_byte rfl (.tmp 17) (.tmp 20) rfl base (.slice A2 L c2) L ((b ++ d).map B8) rfl (HOr2.out.alloc _) (wo.heap.size + 1) (some ⟨wo.heap.size, 0, none⟩) 1 1 [.int .u8 (x : Int)] rfl (Reads.new wo 5 #[.int .u8 (x : Int)] 1 1 rfl) (by simp [Value.oneCell']) (by simp only [maxLen]; omega) (by omega) (by simp; omega) ?_
           intro v4 w4 hown4 hg4 hbw4 hat4
           have HO4 : Hid (OwnB w4 base v4 (b ++ putN m)) := by
             rw [snoc_map _ _ _ HLow.out] at hown4
             exact OwnB.mk' hown4 (by rw [← HD.out, HP.out, ← HL.out]; simp; omega) (by rw [← HD.out, HP.out, List.append_assoc])
           have HB4 : Hid (Below base w w4) := (hbr.alloc (by omega) _).trans hbw4
           clear hown4 hg4 hbw4 hat4)
        go_ret
        exact ⟨_, rfl, HO4.out, HB4.out⟩
      · have HF : Hid (Value.int .u8 (bits .or .u8 ((x : Int) % 256) 128) = B8 (UInt8.ofNat (x % 128 + 128))) := by show _ = _; rw [or128_form x, B8_of _ (by omega)]
        have HP := Lib.hid (putN_step x h128 hx)
        go_wp2_with
          (at_builtin
           refine wpList_app _ ei_byte rfl (.tmp 9) (.tmp 13) rfl base (.slice A2 L c2) L ((b ++ d).map B8) rfl (HOr2.out.alloc _) (wo.heap.size + 1) (some ⟨wo.heap.size, 0, none⟩) 1 1 [.int .u8 (bits .or .u8 ((x : Int) % 256) 128)] rfl (Reads.new wo 5 #[.int .u8 (bits .or .u8 ((x : Int) % 256) 128)] 1 1 rfl) (by simp [Value.oneCell']) (by simp only [maxLen]; omega) (by omega) (by simp; omega) ?_
           intro v4 w4 hown4 hg4 hbw4 hat4
           have HO4 : Hid (OwnB w4 base v4 (b ++ (d ++ [UInt8.ofNat (x % 128 + 128)]))) := by
             rw [snoc_map _ _ _ HF.out] at hown4
             exact OwnB.mk' hown4 (by rw [← HL.out]; simp; omega) (by rw [List.append_assoc])
           have HB4 : Hid (Below base w w4) := (hbr.alloc (by omega) _).trans hbw4
           clear hown4 hg4 hbw4 hat4)
        go_roundw
        case rel =>
          have hd2 : (d ++ [UInt8.ofNat (x % 128 + 128)]) ++ putN (x / 128) = putN m := by rw [← HD.out, HP.out]; simp
          refine ⟨x / 128, d ++ [UInt8.ofNat (x % 128 + 128)], by omega, by go_num, hd2, ?_, HO4.out, HB4.out⟩
          have h1 := congrArg List.length hd2
          have h2 := putN_len m
          rw [List.length_append] at h1
          omega
        case measure => simp [intOf]; omega
theorem OwnB.row {w : World} {base n : Nat} {v : Value} {l : List UInt8} (h : OwnB w base v l) (hn : l.length = n) : w.ownsRow base 5 1 v n (l.map B8) := by
  subst hn
  exact h
set_option maxHeartbeats 400000 in
theorem clone_b (A : Option Addr) (n c B : Nat) (l : List UInt8) (w : World) (hr : Bytes w B A n l) (hn : n ≤ 100000000) (hB : B ≤ w.heap.size) :
    Calls Try.prog 29 #[.slice A n c] w fun e w' => ∃ v, e = .returned v ∧ OwnB w' w.heap.size v l ∧ Below w.heap.size w w' := by
  have HR := Lib.hid hr
  have HL := Lib.hid hr.blen
  clear hr
  have q : ∀ (w : World) (a : Option Addr) (n c n' c' : Nat), (binOp .eql 24 (.slice a n c) (.slice none n' c')).run Try.prog w = .ok (.bool a.isNone) w := fun w a n c n' c' => Lib.run_eql_slice_nil w _ _ a n c n' c' Try.underlying24
  cases A with
  | none =>
    have hn0 : n = 0 := by
      rcases Nat.eq_zero_or_pos n with h | h
      · exact h
      · obtain ⟨ad, h1, _⟩ := HR.out.2 h
        cases h1
    subst hn0
    go_enter Try.func29, Try.ntmps29
    go_wp2
    go_ret
    refine ⟨_, rfl, ?_, Below.refl _ _⟩
    rw [List.eq_nil_of_length_eq_zero HL.out]
    exact OwnB.nil _ _
  | some ad =>
    go_enter Try.func29, Try.ntmps29
    go_wp2_with
      (at_builtin
       refine wpList_app _ ei_byte rfl (.tmp 5) (.tmp 6) rfl w.heap.size (.slice (some ⟨w.heap.size, 0, none⟩) 0 0) 0 [] rfl (World.ownsRow_lit w #[] 0 (Nat.le_refl _) (by simp [maxLen]) rfl) B (some ad) n c (l.map B8) rfl (HR.out.alloc hB _) (oneCell_B8 l) (by simp only [maxLen]; omega) (by omega) (by simp) ?_
       intro v2 w2 hown2 _ hbw2 _
       have hbw : Below w.heap.size w w2 := ((Below.refl _ _).alloc (Nat.le_refl _) _).trans hbw2
       simp only [Nat.zero_add, List.nil_append] at hown2
       have HO := Lib.hid (OwnB.mk' hown2 HL.out.symm rfl)
       clear hown2 hbw2)
    go_ret
    exact ⟨_, rfl, HO.out, hbw⟩

set_option maxHeartbeats 400000 in
theorem Put_any (A : Option Addr) (n c B : Nat) (l : List UInt8) (x : Int) (m : Nat) (w : World) (hr : Bytes w B A n l) (hn : n ≤ 100000000) (hB : B ≤ w.heap.size) (hx : x ≤ 9223372036854775807) (hm : x.toNat = m) :
    Calls Try.prog 33 #[.slice A n c, .int .i64 x] w fun e w' => ∃ v, e = .returned v ∧ OwnB w' w.heap.size v (l ++ putN m) ∧ Below w.heap.size w w' := by
  have HR := Lib.hid hr
  have HL := Lib.hid hr.blen
  have HMx := Lib.hid hm
  clear hr hm
  go_enter Try.func33, Try.ntmps33
  go_wp2_with fail
  with_reducible refine (clone_b A n c B l w HR.out hn hB).mono ?_
  rintro e w2 ⟨v, rfl, hown, hb⟩
  have HO := Lib.hid hown
  clear hown
  go_wp2_with fail
  with_reducible refine (put_any w.heap.size v l x m w2 hx HMx.out HO.out hb.size (by rw [HL.out]; exact hn)).mono ?_
  rintro e w3 ⟨v3, rfl, hown3, hb3⟩
  have HO3 := Lib.hid hown3
  clear hown3
  go_wp2_with fail
  go_ret
  exact ⟨_, rfl, HO3.out, hb.trans hb3⟩

theorem run_str {P : Program} {src e dst : TypeId} (w : World) (hs : P.underlying src = some (.slice e)) (he : P.underlying e = some (.int .u8)) (hd : P.underlying dst = some .string)
    {B : Nat} {A : Option Addr} {n : Nat} {l : List UInt8} (hr : Bytes w B A n l) (c : Nat) : (convert src dst (.slice A n c)).run P w = .ok (.string ⟨l.toArray⟩) w := by
  have hl := hr.blen
  rw [run_convert_bytes_string w src dst e A n c hs he hd]
  rcases A with _ | ad
  · have hn : n = 0 := by
      rcases Nat.eq_zero_or_pos n with h | h
      · exact h
      · obtain ⟨ad, h1, _⟩ := hr.2 h
        cases h1
    subst hn
    rw [List.eq_nil_of_length_eq_zero hl]
    simp [Conv.bytesToString, Sem.run_pure]
    rfl
  · have hload : (loadCells ad n).run P w = .ok ((l.map fun c => (c.toNat : Int)).map (Value.int .u8)).toArray w := by
      have h := run_loadCells_list (P := P) w ad (l.map B8) (fun j u hu => by
        have hj : j < n := by
          have := (List.getElem?_eq_some_iff.1 hu).1
          simpa [hl] using this
        obtain ⟨ad', e1, _, hc⟩ := hr.2 (by omega)
        injection e1 with e1
        subst e1
        exact hc j u hu)
      rw [List.length_map, hl] at h
      rw [h]
      simp [B8, Function.comp_def]
    rw [run_bytesToString w ad n c _ hload, foldl_push_bytes]
    congr 2
    simp [ByteArray.empty, ByteArray.emptyWithCapacity, Function.comp_def]
    rfl

set_option maxHeartbeats 400000 in
theorem sameb_any (b : Bool) (A A' : Option Addr) (n c n' c' B B' : Nat) (l l' : List UInt8) (w : World) (hr : Bytes w B A n l) (hr' : Bytes w B' A' n' l') (hb : decide (l = l') = b) :
    Calls Try.prog 54 #[.slice A n c, .slice A' n' c'] w fun e w' => e = .returned (.bool b) ∧ w = w' := by
  have q1 := run_str (P := Try.prog) w Try.underlying24 Try.underlying5 Try.underlying9 hr c
  have q2 := run_str (P := Try.prog) w Try.underlying24 Try.underlying5 Try.underlying9 hr' c'
  have HB := Lib.hid hb
  clear hr hr' hb
  go_enter Try.func54, Try.ntmps54
  go_wp2_with fail
  go_ret
  exact ⟨ret_b (by rw [← HB.out, Bool.eq_iff_iff]; simp), rfl⟩

set_option maxRecDepth 100000 in
set_option maxHeartbeats 400000 in
theorem rput_pos (A : Option Addr) (n c B : Nat) (b : List UInt8) (x : Int) (m : Nat) (w : World) (hr : Bytes w B A n b) (hn : n ≤ 100000000) (hB : B ≤ w.heap.size) (hmb : m < 9223372036854775808) (hways : x < 0 ∧ m = 0 ∨ ¬ x < 0 ∧ x = (m : Int)) :
    Calls Try.prog 47 #[.slice A n c, .int .i64 x] w fun e w' => ∃ v, e = .returned v ∧ OwnB w' w.heap.size v (b ++ putN m) ∧ Below w.heap.size w w' := by
  have HR := Lib.hid hr
  have HBL := Lib.hid hr.blen
  clear hr
  rcases hways with ⟨h1, rfl⟩ | ⟨h1, rfl⟩
  · go_enter Try.func47, Try.ntmps47
    go_wp2_with
      (at_builtin
       refine wpList_app _ ei_byte rfl (.const (.slice none 0 0)) (.tmp 6) rfl w.heap.size (.slice none 0 0) 0 [] rfl (World.ownsRow_nil _ _ _ _) B A n c (b.map B8) rfl HR.out (oneCell_B8 b) (by simp only [maxLen]; omega) (by omega) (Nat.le_refl _) ?_
       intro v2 w2 hown2 hg2 hbw2 hat2
       have HO2 : Hid (OwnB w2 w.heap.size v2 b) := by
         simp only [Nat.zero_add, List.nil_append] at hown2
         exact OwnB.mk' hown2 HBL.out.symm rfl
       have HB2 := Lib.hid hbw2
       clear hown2 hg2 hbw2 hat2)
    go_loopw [5, 1] (fun v i wr => ∃ (x : Nat) (d : List UInt8), x < 9223372036854775808 ∧ i = .int .i64 (x : Int) ∧ d ++ putN x = putN 0 ∧ d.length ≤ 10 ∧ OwnB wr w.heap.size v (b ++ d) ∧ Below w.heap.size w wr) (fun _ i _ => (intOf i).toNat)
    case atStart => exact ⟨0, [], by omega, rfl, rfl, by simp, by rw [List.append_nil]; exact HO2.out, HB2.out⟩
    case round =>
      obtain ⟨x, d, hx, rfl, hd, hdl, hown, hbr⟩ := hrel
      obtain ⟨wo, rfl⟩ : ∃ wo : World, wo = wr := ⟨_, rfl⟩
      obtain ⟨A2, c2, rfl, hc21, hc22, _⟩ := hown.open_
      have HD := Lib.hid hd
      have hbs := hbr.size
      have hll : (b ++ d).length ≤ 100000010 := by have := HBL.out; simp; omega
      obtain ⟨L, hL⟩ : ∃ L, (b ++ d).length = L := ⟨_, rfl⟩
      rw [hL] at hll hc21 hown ⊢
      have HOr2 := Lib.hid (hown.row hL)
      have HL := Lib.hid hL
      clear hown hd hL
      by_cases h128 : x < 128
      · have HLow : Hid (Value.int .u8 (x : Int) = B8 (UInt8.ofNat x)) := hide (B8_of x (by omega))
        have HP := Lib.hid (putN_low x h128)
        go_wp2_with
          (at_builtin
           refine wpList_app _ ei_byte rfl (.tmp 21) (.tmp 24) rfl w.heap.size (.slice A2 L c2) L ((b ++ d).map B8) rfl (HOr2.out.alloc _) (wo.heap.size + 1) (some ⟨wo.heap.size, 0, none⟩) 1 1 [.int .u8 (x : Int)] rfl (Reads.new wo 5 #[.int .u8 (x : Int)] 1 1 rfl) (by simp [Value.oneCell']) (by simp only [maxLen]; omega) (by omega) (by simp; omega) ?_
           intro v4 w4 hown4 hg4 hbw4 hat4
           have HO4 : Hid (OwnB w4 w.heap.size v4 (b ++ putN 0)) := by
             rw [snoc_map _ _ _ HLow.out] at hown4
             exact OwnB.mk' hown4 (by rw [← HD.out, HP.out, ← HL.out]; simp; omega) (by rw [← HD.out, HP.out, List.append_assoc])
           have HB4 : Hid (Below w.heap.size w w4) := (hbr.alloc (by omega) _).trans hbw4
           clear hown4 hg4 hbw4 hat4)
        go_ret
        exact ⟨_, rfl, HO4.out, HB4.out⟩
      · have HF : Hid (Value.int .u8 ((x : Int) % 128 + 128) = B8 (UInt8.ofNat (x % 128 + 128))) := by
          show _ = _
          rw [← B8_of _ (by omega)]
          congr 1
        have HP := Lib.hid (putN_step x h128 hx)
        go_wp2_with
          (at_builtin
           refine wpList_app _ ei_byte rfl (.tmp 12) (.tmp 17) rfl w.heap.size (.slice A2 L c2) L ((b ++ d).map B8) rfl (HOr2.out.alloc _) (wo.heap.size + 1) (some ⟨wo.heap.size, 0, none⟩) 1 1 [.int .u8 ((x : Int) % 128 + 128)] rfl (Reads.new wo 5 #[.int .u8 ((x : Int) % 128 + 128)] 1 1 rfl) (by simp [Value.oneCell']) (by simp only [maxLen]; omega) (by omega) (by simp; omega) ?_
           intro v4 w4 hown4 hg4 hbw4 hat4
           have HO4 : Hid (OwnB w4 w.heap.size v4 (b ++ (d ++ [UInt8.ofNat (x % 128 + 128)]))) := by
             rw [snoc_map _ _ _ HF.out] at hown4
             exact OwnB.mk' hown4 (by rw [← HL.out]; simp; omega) (by rw [List.append_assoc])
           have HB4 : Hid (Below w.heap.size w w4) := (hbr.alloc (by omega) _).trans hbw4
           clear hown4 hg4 hbw4 hat4)
        go_roundw
        case rel =>
          have hd2 : (d ++ [UInt8.ofNat (x % 128 + 128)]) ++ putN (x / 128) = putN 0 := by rw [← HD.out, HP.out]; simp
          refine ⟨x / 128, d ++ [UInt8.ofNat (x % 128 + 128)], by omega, by go_num, hd2, ?_, HO4.out, HB4.out⟩
          have h1 := congrArg List.length hd2
          have h2 := putN_len 0
          rw [List.length_append] at h1
          omega
        case measure => simp [intOf]; omega
  · go_enter Try.func47, Try.ntmps47
    go_wp2_with
      (at_builtin
       refine wpList_app _ ei_byte rfl (.const (.slice none 0 0)) (.tmp 6) rfl w.heap.size (.slice none 0 0) 0 [] rfl (World.ownsRow_nil _ _ _ _) B A n c (b.map B8) rfl HR.out (oneCell_B8 b) (by simp only [maxLen]; omega) (by omega) (Nat.le_refl _) ?_
       intro v2 w2 hown2 hg2 hbw2 hat2
       have HO2 : Hid (OwnB w2 w.heap.size v2 b) := by
         simp only [Nat.zero_add, List.nil_append] at hown2
         exact OwnB.mk' hown2 HBL.out.symm rfl
       have HB2 := Lib.hid hbw2
       clear hown2 hg2 hbw2 hat2)
    go_loopw [5, 1] (fun v i wr => ∃ (x : Nat) (d : List UInt8), x < 9223372036854775808 ∧ i = .int .i64 (x : Int) ∧ d ++ putN x = putN m ∧ d.length ≤ 10 ∧ OwnB wr w.heap.size v (b ++ d) ∧ Below w.heap.size w wr) (fun _ i _ => (intOf i).toNat)
    case atStart => exact ⟨m, [], by omega, rfl, rfl, by simp, by rw [List.append_nil]; exact HO2.out, HB2.out⟩
    case round =>
      obtain ⟨x, d, hx, rfl, hd, hdl, hown, hbr⟩ := hrel
      obtain ⟨wo, rfl⟩ : ∃ wo : World, wo = wr := ⟨_, rfl⟩
      obtain ⟨A2, c2, rfl, hc21, hc22, _⟩ := hown.open_
      have HD := Lib.hid hd
      have hbs := hbr.size
      have hll : (b ++ d).length ≤ 100000010 := by have := HBL.out; simp; omega
      obtain ⟨L, hL⟩ : ∃ L, (b ++ d).length = L := ⟨_, rfl⟩
      rw [hL] at hll hc21 hown ⊢
      have HOr2 := Lib.hid (hown.row hL)
      have HL := Lib.hid hL
      clear hown hd hL
      by_cases h128 : x < 128
      · have HLow : Hid (Value.int .u8 (x : Int) = B8 (UInt8.ofNat x)) := hide (B8_of x (by omega))
        have HP := Lib.hid (putN_low x h128)
        go_wp2_with
          (at_builtin
           refine wpList_app _ ei_byte rfl (.tmp 21) (.tmp 24) rfl w.heap.size (.slice A2 L c2) L ((b ++ d).map B8) rfl (HOr2.out.alloc _) (wo.heap.size + 1) (some ⟨wo.heap.size, 0, none⟩) 1 1 [.int .u8 (x : Int)] rfl (Reads.new wo 5 #[.int .u8 (x : Int)] 1 1 rfl) (by simp [Value.oneCell']) (by simp only [maxLen]; omega) (by omega) (by simp; omega) ?_
           intro v4 w4 hown4 hg4 hbw4 hat4
           have HO4 : Hid (OwnB w4 w.heap.size v4 (b ++ putN m)) := by
             rw [snoc_map _ _ _ HLow.out] at hown4
             exact OwnB.mk' hown4 (by rw [← HD.out, HP.out, ← HL.out]; simp; omega) (by rw [← HD.out, HP.out, List.append_assoc])
           have HB4 : Hid (Below w.heap.size w w4) := (hbr.alloc (by omega) _).trans hbw4
           clear hown4 hg4 hbw4 hat4)
        go_ret
        exact ⟨_, rfl, HO4.out, HB4.out⟩
      · have HF : Hid (Value.int .u8 ((x : Int) % 128 + 128) = B8 (UInt8.ofNat (x % 128 + 128))) := by
          show _ = _
          rw [← B8_of _ (by omega)]
          congr 1
        have HP := Lib.hid (putN_step x h128 hx)
        go_wp2_with
          (at_builtin
           refine wpList_app _ ei_byte rfl (.tmp 12) (.tmp 17) rfl w.heap.size (.slice A2 L c2) L ((b ++ d).map B8) rfl (HOr2.out.alloc _) (wo.heap.size + 1) (some ⟨wo.heap.size, 0, none⟩) 1 1 [.int .u8 ((x : Int) % 128 + 128)] rfl (Reads.new wo 5 #[.int .u8 ((x : Int) % 128 + 128)] 1 1 rfl) (by simp [Value.oneCell']) (by simp only [maxLen]; omega) (by omega) (by simp; omega) ?_
           intro v4 w4 hown4 hg4 hbw4 hat4
           have HO4 : Hid (OwnB w4 w.heap.size v4 (b ++ (d ++ [UInt8.ofNat (x % 128 + 128)]))) := by
             rw [snoc_map _ _ _ HF.out] at hown4
             exact OwnB.mk' hown4 (by rw [← HL.out]; simp; omega) (by rw [List.append_assoc])
           have HB4 : Hid (Below w.heap.size w w4) := (hbr.alloc (by omega) _).trans hbw4
           clear hown4 hg4 hbw4 hat4)
        go_roundw
        case rel =>
          have hd2 : (d ++ [UInt8.ofNat (x % 128 + 128)]) ++ putN (x / 128) = putN m := by rw [← HD.out, HP.out]; simp
          refine ⟨x / 128, d ++ [UInt8.ofNat (x % 128 + 128)], by omega, by go_num, hd2, ?_, HO4.out, HB4.out⟩
          have h1 := congrArg List.length hd2
          have h2 := putN_len m
          rw [List.length_append] at h1
          omega
        case measure => simp [intOf]; omega
theorem rPut_any (A : Option Addr) (n c B : Nat) (l : List UInt8) (x : Int) (m : Nat) (w : World) (hr : Bytes w B A n l) (hn : n ≤ 100000000) (hB : B ≤ w.heap.size) (hx : x ≤ 9223372036854775807) (hm : x.toNat = m) :
    Calls Try.prog 47 #[.slice A n c, .int .i64 x] w fun e w' => ∃ v, e = .returned v ∧ OwnB w' w.heap.size v (l ++ putN m) ∧ Below w.heap.size w w' :=
  rput_pos A n c B l x m w hr hn hB (by omega) (by omega)
end Go.Proofs.Ytdmkkpnjakdnnaa
