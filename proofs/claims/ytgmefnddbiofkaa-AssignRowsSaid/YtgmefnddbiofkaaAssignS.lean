/-
  The small functions of the laws of chapter 8, walked: small, right, Same, before, Clone.
-/
import Derived.Test.YtgmefnddbiofkaaAssignRT
namespace Go.Proofs.Ytgmefnddbiofkaa
open Go.RowKit

theorem ei_int : EInfo Try.prog 27 3 1 8 := EInfo.mk' Try.underlying27 (z := .int .i64 0) (by kernel_rfl) rfl (by omega)

def wideB (r : List Int) : Bool := decide (20 < r.length)
def smallB (rows : List (List Int)) : Bool := decide (rows.length ≤ 20) && !rows.any wideB

set_option maxHeartbeats 400000 in
theorem small_b (b : Bool) (A : Option Addr) (n c B : Nat) (rows : List (List Int)) (w : World) (hm : Mat w B A n rows) (hn : n ≤ maxLen) (hb : smallB rows = b) :
    Calls Try.prog 11 #[.slice A n c] w fun e w' => e = .returned (.bool b) ∧ w = w' := by
  unfold maxLen at hn
  have HL := Lib.hid hm.len
  have HM := Lib.hid hm
  have HB := Lib.hid hb
  clear hm hb
  by_cases h20 : n ≤ 20
  · have HB2 : Hid (b = !rows.any wideB) := by show b = _; rw [← HB.out, smallB, HL.out]; simp [h20]
    go_enter Try.func11, Try.ntmps11
    go_wp2_with fail
    go_loop [3] (fun i => ∃ k : Nat, k ≤ n ∧ i = .int .i64 k ∧ (rows.take k).any wideB = false) (fun i => n - (intOf i).toNat)
    case atStart => exact ⟨0, by omega, rfl, by simp⟩
    case round =>
      obtain ⟨k, hk, rfl, hall⟩ := hrel
      have HA := Lib.hid hall
      clear hall
      by_cases hlt : k < n
      · obtain ⟨ad, a, rc, rfl, _, hc, hrl, hrc, hri⟩ := HM.out.row hlt
        unfold maxLen at hrc
        have HT := Lib.hid (any_take_succ wideB [] rows k (by rw [HL.out]; exact hlt))
        have HAt := Lib.hid (any_of_at wideB [] rows k (by rw [HL.out]; exact hlt))
        clear hri
        generalize hr : rows.getD k [] = r at *
        have HR := Lib.hid hr
        clear hr
        by_cases hl8 : 20 < r.length
        · go_wp2
          go_ret
          exact ⟨ret_bool (by rw [HB2.out, HAt.out (by simp [wideB, hl8])]; rfl), rfl⟩
        · go_wp2
          go_round
          case rel => exact ⟨k + 1, by omega, by go_num, by rw [HT.out, HA.out]; simp [wideB]; omega⟩
          case measure => simp [intOf]; omega
      · have H1 := Lib.hid (any_of_take wideB rows k (by rw [HL.out]; omega) HA.out)
        go_wp2_with fail
        go_ret
        exact ⟨ret_bool (by rw [HB2.out, H1.out]; rfl), rfl⟩
  · have HB2 : Hid (b = false) := by show b = _; rw [← HB.out, smallB, HL.out]; simp [h20]
    go_enter Try.func11, Try.ntmps11
    go_wp2_with fail
    go_ret
    exact ⟨ret_bool (by rw [HB2.out]), rfl⟩

def rightB (rows : List (List Int)) : Bool := smallB rows && decide (errR rows = 0)
theorem smallB_len {rows : List (List Int)} (h : smallB rows = true) : rows.length ≤ 20 := by
  unfold smallB at h
  simp only [Bool.and_eq_true, decide_eq_true_eq] at h
  exact h.1
set_option maxHeartbeats 400000 in
theorem right_b (b : Bool) (A : Option Addr) (n c B : Nat) (rows : List (List Int)) (w : World) (hm : Mat w B A n rows) (hn : n ≤ maxLen) (hb : rightB rows = b) :
    Calls Try.prog 14 #[.slice A n c] w fun e w' => e = .returned (.bool b) ∧ ∃ m, w' = w.drewN m := by
  have HL := Lib.hid hm.len
  have HM := Lib.hid hm
  have HB := Lib.hid hb
  clear hm hb
  obtain ⟨s, hs⟩ : ∃ s, smallB rows = s := ⟨_, rfl⟩
  cases s with
  | true =>
    have h20 := smallB_len hs
    rw [HL.out] at h20
    obtain ⟨r, hr⟩ : ∃ r, errR rows = r := ⟨_, rfl⟩
    have HR : Hid (∀ W, Mat W B A n rows → Calls Try.prog 13 #[.slice A n c] W fun e w' => e = .returned (.int .i64 r) ∧ ∃ m, w' = W.drewN m) := fun W hW => by
      rw [← hr]; exact rright_any A n c B rows W hW (by omega)
    have HB2 : Hid (b = decide (r = 0)) := by show b = _; rw [← HB.out, rightB, hs, hr]; rfl
    have HS := Lib.hid hs
    clear hs hr
    go_enter Try.func14, Try.ntmps14
    go_wp2_with fail
    with_reducible refine (small_b true _ _ _ _ _ _ HM.out hn HS.out).mono ?_
    rintro e w' ⟨rfl, rfl⟩
    go_wp2_with fail
    with_reducible refine (HR.out _ HM.out).mono ?_
    rintro e w' ⟨rfl, m, rfl⟩
    go_wp2_with fail
    go_ret
    exact ⟨ret_bool (by rw [HB2.out]; rfl), m, rfl⟩
  | false =>
    have HB2 : Hid (b = false) := by show b = _; rw [← HB.out, rightB, hs]; rfl
    have HS := Lib.hid hs
    clear hs
    go_enter Try.func14, Try.ntmps14
    go_wp2_with fail
    with_reducible refine (small_b false _ _ _ _ _ _ HM.out hn HS.out).mono ?_
    rintro e w' ⟨rfl, rfl⟩
    go_wp2_with fail
    go_ret
    exact ⟨ret_bool (by rw [HB2.out]), 0, rfl⟩

theorem take_eq_succ (l l' : List Int) (k : Nat) (h : k < l.length) (h' : k < l'.length) (e : l.take k = l'.take k) (e2 : l.getD k 0 = l'.getD k 0) : l.take (k + 1) = l'.take (k + 1) := by
  rw [List.take_succ_eq_append_getElem h, List.take_succ_eq_append_getElem h', e]
  have e3 : l[k] = l'[k] := by simpa [List.getElem?_eq_getElem h, List.getElem?_eq_getElem h'] using e2
  rw [e3]

set_option maxHeartbeats 400000 in
theorem same_b (b : Bool) (A A' : Option Addr) (n c n' c' B B' : Nat) (l l' : List Int) (w : World) (hr : Ints w B A n l) (hr' : Ints w B' A' n' l') (hn : n ≤ maxLen) (hb : decide (l = l') = b) :
    Calls Try.prog 19 #[.slice A n c, .slice A' n' c'] w fun e w' => e = .returned (.bool b) ∧ ∃ m, w' = w.drewN m := by
  unfold maxLen at hn
  have HL := Lib.hid hr.ilen
  have HL' := Lib.hid hr'.ilen
  have HR := Lib.hid hr
  have HR' := Lib.hid hr'
  have HB := Lib.hid hb
  clear hr hr' hb
  by_cases hlen : n = n'
  · subst hlen
    go_enter Try.func19, Try.ntmps19
    go_wp2_with fail
    go_loopw [5] (fun i wr => ∃ k m : Nat, k ≤ n ∧ i = .int .i64 k ∧ l.take k = l'.take k ∧ wr = w.drewN m) (fun i _ => n - (intOf i).toNat)
    case atStart => exact ⟨0, 0, by omega, rfl, by simp, rfl⟩
    case round =>
      obtain ⟨k, m, hk, rfl, heq, rfl⟩ := hrel
      have HE := Lib.hid heq
      clear heq
      by_cases hlt : k < n
      · obtain ⟨ad, rfl, _, hc⟩ := HR.out.int hlt
        obtain ⟨ad', rfl, _, hc'⟩ := HR'.out.int hlt
        have HS := Lib.hid (take_eq_succ l l' k (by rw [HL.out]; exact hlt) (by rw [HL'.out]; exact hlt) HE.out)
        have HD : Hid (l = l' → l.getD k 0 = l'.getD k 0) := fun e => by rw [e]
        generalize hx : l.getD k 0 = x at *
        generalize hy : l'.getD k 0 = y at *
        have HX := Lib.hid hx
        have HY := Lib.hid hy
        clear hx hy
        by_cases he : x = y
        · have hbn : (x != y) = false := by rw [bne_eq_false_iff_eq]; exact he
          have HE2 := Lib.hid he
          clear he
          go_wp2_with fail
          go_quiet (fail)
          go_wp2_with fail
          go_roundw
          case rel => exact ⟨k + 1, _, by omega, by go_num, HS.out HE2.out, by first | rfl | exact World.drewN_drewN _ _ _⟩
          case measure => simp [intOf]; omega
        · have hbn : (x != y) = true := by rw [bne_iff_ne]; exact he
          have HE2 := Lib.hid he
          clear he
          go_wp2_with fail
          go_quiet (fail)
          go_wp2_with fail
          go_ret
          exact ⟨ret_bool (by rw [← HB.out]; symm; rw [decide_eq_false_iff_not]; exact fun e => HE2.out (HD.out e)), _, by first | rfl | exact World.drewN_drewN _ _ _⟩
      · obtain rfl : n = k := by omega
        go_wp2_with fail
        go_ret
        refine ⟨ret_bool ?_, _, rfl⟩
        rw [← HB.out]
        symm
        rw [decide_eq_true_eq]
        have := HE.out
        rwa [List.take_of_length_le (by rw [HL.out]; omega), List.take_of_length_le (by rw [HL'.out]; omega)] at this
  · have hbn : ((n : Int) != (n' : Int)) = true := by rw [bne_iff_ne]; omega
    go_enter Try.func19, Try.ntmps19
    go_wp2_with fail
    go_ret
    refine ⟨ret_bool ?_, 0, rfl⟩
    rw [← HB.out]
    symm
    rw [decide_eq_false_iff_not]
    intro e
    have h1 := HL.out
    have h2 := HL'.out
    rw [e, h2] at h1
    exact hlen h1.symm

def befB : List Int → List Int → Bool
  | a :: l, b :: r => if a = b then befB l r else decide (a < b)
  | _, _ => false
theorem befB_at (l l' : List Int) (k : Nat) (h : k < l.length) (h' : k < l'.length) :
    befB (l.drop k) (l'.drop k) = if l.getD k 0 = l'.getD k 0 then befB (l.drop (k + 1)) (l'.drop (k + 1)) else decide (l.getD k 0 < l'.getD k 0) := by
  rw [List.drop_eq_getElem_cons h, List.drop_eq_getElem_cons h', befB]
  simp [List.getElem?_eq_getElem h, List.getElem?_eq_getElem h']
theorem befB_end (l l' : List Int) (k : Nat) (h : l.length ≤ k ∨ l'.length ≤ k) : befB (l.drop k) (l'.drop k) = false := by
  rcases h with h | h
  · rw [List.drop_eq_nil_of_le h]; rfl
  · rw [List.drop_eq_nil_of_le h]
    cases l.drop k <;> rfl
theorem befB_lexL : ∀ (q p : List Nat), befB (intsN q) (intsN p) = true ↔ lexL q p
  | [], _ => by simp [intsN, befB, lexL]
  | _ :: _, [] => by simp [intsN, befB, lexL]
  | a :: l, b :: r => by
    have ih := befB_lexL l r
    show (if (a : Int) = (b : Int) then befB (intsN l) (intsN r) else decide ((a : Int) < (b : Int))) = true ↔ _
    by_cases h : a = b
    · subst h
      rw [if_pos rfl, ih]
      simp [lexL]
    · rw [if_neg (by omega)]
      simp [lexL, h]

set_option maxHeartbeats 400000 in
theorem before_b (b : Bool) (A A' : Option Addr) (n c n' c' B B' : Nat) (l l' : List Int) (w : World) (hr : Ints w B A n l) (hr' : Ints w B' A' n' l') (hn : n ≤ maxLen) (hn' : n' ≤ maxLen) (hb : befB l l' = b) :
    Calls Try.prog 20 #[.slice A n c, .slice A' n' c'] w fun e w' => e = .returned (.bool b) ∧ ∃ m, w' = w.drewN m := by
  unfold maxLen at hn hn'
  have HL := Lib.hid hr.ilen
  have HL' := Lib.hid hr'.ilen
  have HR := Lib.hid hr
  have HR' := Lib.hid hr'
  have HB := Lib.hid hb
  clear hr hr' hb
  go_enter Try.func20, Try.ntmps20
  go_wp2_with fail
  go_loopw [5] (fun i wr => ∃ k m : Nat, k ≤ n ∧ k ≤ n' ∧ i = .int .i64 k ∧ befB (l.drop k) (l'.drop k) = b ∧ wr = w.drewN m) (fun i _ => n - (intOf i).toNat)
  case atStart => exact ⟨0, 0, by omega, by omega, rfl, HB.out, rfl⟩
  case round =>
    obtain ⟨k, m, hk, hk', rfl, heq, rfl⟩ := hrel
    have HE := Lib.hid heq
    clear heq
    by_cases hlt : k < n
    · by_cases hlt' : k < n'
      · obtain ⟨ad, rfl, _, hc⟩ := HR.out.int hlt
        obtain ⟨ad', rfl, _, hc'⟩ := HR'.out.int hlt'
        have HS := Lib.hid (befB_at l l' k (by rw [HL.out]; exact hlt) (by rw [HL'.out]; exact hlt'))
        generalize hx : l.getD k 0 = x at *
        generalize hy : l'.getD k 0 = y at *
        have HX := Lib.hid hx
        have HY := Lib.hid hy
        clear hx hy
        by_cases he : x = y
        · have hbn : (x != y) = false := by rw [bne_eq_false_iff_eq]; exact he
          have HE2 := Lib.hid he
          clear he
          go_wp2_with fail
          go_quiet (fail)
          go_wp2_with fail
          go_roundw
          case rel => exact ⟨k + 1, _, by omega, by omega, by go_num, by have := HE.out; rwa [HS.out, if_pos HE2.out] at this, by first | rfl | exact World.drewN_drewN _ _ _⟩
          case measure => simp [intOf]; omega
        · have hbn : (x != y) = true := by rw [bne_iff_ne]; exact he
          have HE2 := Lib.hid he
          clear he
          go_wp2_with fail
          go_quiet (fail)
          go_wp2_with fail
          go_quiet (fail)
          go_wp2_with fail
          go_ret
          exact ⟨ret_bool (by have := HE.out; rw [HS.out, if_neg HE2.out] at this; simpa using this), _, by rw [World.drewN_drewN, World.drewN_drewN]⟩
      · have HZ := Lib.hid (befB_end l l' k (.inr (by rw [HL'.out]; omega)))
        go_wp2_with fail
        go_ret
        exact ⟨ret_bool (by rw [← HE.out, HZ.out]), _, rfl⟩
    · have HZ := Lib.hid (befB_end l l' k (.inl (by rw [HL.out]; omega)))
      go_wp2_with fail
      go_ret
      exact ⟨ret_bool (by rw [← HE.out, HZ.out]), _, rfl⟩

set_option maxHeartbeats 400000 in
theorem clone_any (A : Option Addr) (n c B : Nat) (l : List Int) (w : World) (hr : Ints w B A n l) (hn : n ≤ 1000000) (hB : B ≤ w.heap.size) :
    Calls Try.prog 24 #[.slice A n c] w fun e w' => ∃ v, e = .returned v ∧ w'.ownsRow w.heap.size 3 1 v n (l.map (Value.int .i64)) ∧ Below w.heap.size w w' := by
  have HR := Lib.hid hr
  have HL := Lib.hid hr.ilen
  clear hr
  have q : ∀ (w : World) (a : Option Addr) (n c n' c' : Nat), (binOp .eql 27 (.slice a n c) (.slice none n' c')).run Try.prog w = .ok (.bool a.isNone) w := fun w a n c n' c' => Lib.run_eql_slice_nil w _ _ a n c n' c' Try.underlying27
  cases A with
  | none =>
    have hn0 : n = 0 := by
      rcases Nat.eq_zero_or_pos n with h | h
      · exact h
      · obtain ⟨ad, h1, _⟩ := HR.out.2 h
        cases h1
    subst hn0
    go_enter Try.func24, Try.ntmps24
    go_wp2
    go_ret
    refine ⟨_, rfl, ?_, Below.refl _ _⟩
    rw [List.eq_nil_of_length_eq_zero HL.out]
    exact World.ownsRow_nil _ _ _ _
  | some ad =>
    go_enter Try.func24, Try.ntmps24
    go_wp2_with
      (at_builtin
       refine wpList_app _ ei_int rfl (.tmp 5) (.tmp 6) rfl w.heap.size (.slice (some ⟨w.heap.size, 0, none⟩) 0 0) 0 [] rfl (World.ownsRow_lit w #[] 0 (Nat.le_refl _) (by simp [maxLen]) rfl) B (some ad) n c (l.map (Value.int .i64)) rfl (HR.out.alloc hB _) (oneCell_ints l) (by simp only [maxLen]; omega) (by omega) (by simp) ?_
       intro v2 w2 hown2 _ hbw2 _
       have hbw : Below w.heap.size w w2 := ((Below.refl _ _).alloc (Nat.le_refl _) _).trans hbw2
       simp only [Nat.zero_add, List.nil_append] at hown2
       have HO := Lib.hid hown2
       clear hown2 hbw2)
    go_ret
    exact ⟨_, rfl, HO.out, hbw⟩
end Go.Proofs.Ytgmefnddbiofkaa
