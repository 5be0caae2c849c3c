/-
  Push of chapter 56, and the reference's, walked.
-/
import Derived.Test.YticoeibccdplaaaSwpK
import Derived.Test.YticoeibccdplaaaSwpQ
namespace Go.Proofs.Yticoeibccdplaaa
open Go.RowKit

set_option maxHeartbeats 400000 in
theorem clone_i (A : Option Addr) (n c B : Nat) (l : List Int) (w : World) (hr : Ints w B A n l) (hn : n ≤ 100000000) (hB : B ≤ w.heap.size) :
    Calls Try.prog 51 #[.slice A n c] w fun e w' => ∃ v, e = .returned v ∧ OwnI w' w.heap.size v l ∧ Below w.heap.size w w' := by
  have HR := Lib.hid hr
  have HL := Lib.hid hr.ilen
  clear hr
  have q : ∀ (w : World) (a : Option Addr) (n c n' c' : Nat), (binOp .eql 25 (.slice a n c) (.slice none n' c')).run Try.prog w = .ok (.bool a.isNone) w := fun w a n c n' c' => Lib.run_eql_slice_nil w _ _ a n c n' c' Try.underlying25
  cases A with
  | none =>
    have hn0 : n = 0 := by
      rcases Nat.eq_zero_or_pos n with h | h
      · exact h
      · obtain ⟨ad, h1, _⟩ := HR.out.2 h
        cases h1
    subst hn0
    go_enter Try.func51, Try.ntmps51
    go_wp2
    go_ret
    refine ⟨_, rfl, ?_, Below.refl _ _⟩
    rw [List.eq_nil_of_length_eq_zero HL.out]
    exact OwnI.nil _ _
  | some ad =>
    go_enter Try.func51, Try.ntmps51
    go_wp2_with
      (at_builtin
       refine wpList_app _ ei_ints rfl (.tmp 5) (.tmp 6) rfl w.heap.size (.slice (some ⟨w.heap.size, 0, none⟩) 0 0) 0 [] rfl (World.ownsRow_lit w #[] 0 (Nat.le_refl _) (by simp [maxLen]) rfl) B (some ad) n c (l.map (Value.int .i64)) rfl (HR.out.alloc hB _) (oneCell_ints l) (by simp only [maxLen]; omega) (by omega) (by simp) ?_
       intro v2 w2 hown2 _ hbw2 _
       have hbw : Below w.heap.size w w2 := ((Below.refl _ _).alloc (Nat.le_refl _) _).trans hbw2
       simp only [Nat.zero_add, List.nil_append] at hown2
       have HO := Lib.hid (OwnI.mk' hown2 HL.out.symm rfl)
       clear hown2 hbw2)
    go_ret
    exact ⟨_, rfl, HO.out, hbw⟩

theorem own_i {w : World} {base base' g n cap : Nat} {l l' : List Int} (hb : base' ≤ base) (h : OwnG 3 w base g n cap l) (hn : n = l'.length) (hl : l' = l) : OwnI w base' (.slice (some ⟨g, 0, none⟩) n cap) l' := by
  subst hl
  exact (OwnI.mk' h hn rfl).mono hb
set_option maxRecDepth 100000 in
set_option maxHeartbeats 4000000 in
theorem rindex_any (A : Option Addr) (n c B : Nat) (l : List Int) (x : Int) (w : World) (hr : Ints w B A n l) (hn : n ≤ maxLen) :
    Calls Try.prog 57 #[.slice A n c, .int .i64 x] w fun e w' => e = .returned (.int .i64 (indI l x)) ∧ w = w' := by
  unfold maxLen at hn
  have HR := Lib.hid hr
  have HL := Lib.hid hr.ilen
  clear hr
  go_enter Try.func57, Try.ntmps57
  go_wp2_with fail
  go_loop [5] (fun i => ∃ k : Nat, k ≤ n ∧ i = .int .i64 k ∧ indI l x = idxF (fun y => y == x) (l.drop k) k) (fun i => n - (intOf i).toNat)
  case atStart => exact ⟨0, by omega, rfl, rfl⟩
  case round =>
    obtain ⟨k, hk, rfl, hno⟩ := hrel
    have HNo := Lib.hid hno
    clear hno
    by_cases hlt : k < n
    · obtain ⟨ad, rfl, _, hc⟩ := HR.out.int hlt
      have HY : Hid ((l.getD k 0 == x) = true → indI l x = (k : Int)) := fun h => HNo.out.trans (idxF_yes (by rw [HL.out]; exact hlt) h)
      have HN : Hid ((l.getD k 0 == x) = false → indI l x = idxF (fun y => y == x) (l.drop (k + 1)) (k + 1)) := fun h => HNo.out.trans (idxF_no (by rw [HL.out]; exact hlt) h)
      generalize l.getD k 0 = y at *
      cases hxy : (y == x) with
      | true =>
        have HF := Lib.hid (HY.out hxy)
        go_wp2_with fail
        go_ret
        exact ⟨ret_i HF.out.symm, rfl⟩
      | false =>
        have HF := Lib.hid (HN.out hxy)
        go_wp2_with fail
        go_round
        case rel => exact ⟨k + 1, by omega, by go_num, HF.out⟩
        case measure => simp [intOf]; omega
    · obtain rfl : k = n := by omega
      have HF : Hid (indI l x = -1) := by have h := HNo.out; rw [List.drop_of_length_le (by rw [HL.out]; exact Nat.le_refl _)] at h; exact hide h
      go_wp2_with fail
      go_ret
      exact ⟨ret_i HF.out.symm, rfl⟩

set_option maxRecDepth 100000 in
set_option maxHeartbeats 4000000 in
theorem formed_any (v1 v2 : Value) (bg : Int) (runs people : List Int) (vp : Value) (b : Bool) (w : World) (hr1 : RowV w w.heap.size v1 runs) (hp : RowV w w.heap.size vp people) (hb : formB runs people = b) :
    Calls Try.prog 53 #[.agg #[v1, v2, .int .i64 bg], vp] w fun e w' => e = .returned (.bool b) ∧ Below w.heap.size w w' := by
  obtain ⟨A1, n1, c1, rfl, HL1, h11, h12, _⟩ := hr1.nam
  obtain ⟨A, n, c, rfl, HL, h3, h4, hr⟩ := hp.nam
  have HR := Lib.hid hr
  have hn : n ≤ maxLen := Nat.le_trans h3 h4
  have hn1 : n1 ≤ maxLen := Nat.le_trans h11 h12
  unfold maxLen at hn hn1
  have hu : formB runs people = (decide (n = n1) && people.all fun n => decide (0 ≤ n) && decide (n ≤ 1000000)) := by unfold formB; rw [HL1.out, HL.out]
  rw [hu] at hb
  have HB := Lib.hid hb
  clear hr1 hp hr hu hb h11 h12 h3 h4
  obtain ⟨g, hg⟩ : ∃ g : Int → Bool, g = fun n => decide (0 ≤ n) && decide (n ≤ 1000000) := ⟨_, rfl⟩
  rw [← hg] at HB
  have HG : Hid (∀ x, g x = (decide (0 ≤ x) && decide (x ≤ 1000000))) := fun x => by rw [hg]
  clear hg
  by_cases hlen : n = n1
  · subst hlen
    have HF0 : Hid (people.all g = b) := hide (by rw [← HB.out]; simp)
    go_enter Try.func53, Try.ntmps53
    go_wp2_with fail
    have HBwb := (Blk.new w 30 #[.slice A1 n c1, v2, .int .i64 bg])
    have HLwb := (below_new w (.cells #[.slice A1 n c1, v2, .int .i64 bg] 30))
    have hswb : (w.alloc (.cells #[.slice A1 n c1, v2, .int .i64 bg] 30)).heap.size = w.heap.size + 1 := by simp
    generalize w.alloc (.cells #[.slice A1 n c1, v2, .int .i64 bg] 30) = wb at HBwb HLwb hswb ⊢
    replace HBwb := Lib.hid HBwb
    replace HLwb := Lib.hid HLwb
    have hlwb : w.heap.size < wb.heap.size := by omega
    replace hswb := Lib.hid hswb
    have HWb := Lib.hid (HLwb.out)
    have hl0 : w.heap.size ≤ wb.heap.size := HWb.out.size
    have HBb : Hid (Below wb.heap.size wb wb) := hide (Below.refl _ _)
    have hszb : wb.heap.size ≤ wb.heap.size := Nat.le_refl _
    have HX0b : Hid (Blk wb w.heap.size 30 #[.slice A1 n c1, v2, .int .i64 bg]) := hide HBwb.out
    have hxx0 : w.heap.size < wb.heap.size := HX0b.out.lt
    clear HBwb HLwb hswb hlwb
    have HRb := Lib.hid (HR.out.now HWb.out)
    go_loopw [15] (fun i wr => ∃ k : Nat, k ≤ n ∧ i = .int .i64 k ∧ b = (people.drop k).all g ∧ wb = wr) (fun i _ => n - (intOf i).toNat)
    case atStart => exact ⟨0, by omega, rfl, HF0.out.symm, rfl⟩
    case round =>
      obtain ⟨k, hk, rfl, hF, rfl⟩ := hrel
      have HF := Lib.hid hF
      clear hF
      by_cases hlt : k < n
      · obtain ⟨ad, rfl, _, hc⟩ := HRb.out.int hlt
        have HS := Lib.hid (HF.out.trans (all_at g people k (by rw [HL.out]; exact hlt)))
        generalize people.getD k 0 = x at *
        have HGx := Lib.hid (HG.out x)
        by_cases h1 : x < 0
        · have HZ : Hid (b = false) := hide (HS.out.trans (by rw [HGx.out, decide_eq_false (by omega)]; rfl))
          go_wp2_with fail
          go_ret
          exact ⟨ret_b HZ.out.symm, HWb.out⟩
        have d1 : decide (x < 0) = false := decide_eq_false h1
        by_cases h2 : 1000000 < x
        · have HZ : Hid (b = false) := hide (HS.out.trans (by rw [HGx.out, decide_eq_true (show 0 ≤ x by omega), decide_eq_false (show ¬ x ≤ 1000000 by omega)]; rfl))
          go_wp2_with fail
          go_ret
          exact ⟨ret_b HZ.out.symm, HWb.out⟩
        have d2 : decide (1000000 < x) = false := decide_eq_false h2
        have HZ : Hid (b = (people.drop (k + 1)).all g) := hide (HS.out.trans (by rw [HGx.out, decide_eq_true (show 0 ≤ x by omega), decide_eq_true (show x ≤ 1000000 by omega)]; rfl))
        go_wp2_with fail
        go_roundw
        case rel => exact ⟨k + 1, by omega, by go_num, HZ.out, by first | rfl | trivial⟩
        case measure => simp [intOf]; omega
      · obtain rfl : k = n := by omega
        have HZ : Hid (b = true) := by have h := HF.out; rw [List.drop_of_length_le (by rw [HL.out]; exact Nat.le_refl _)] at h; exact hide h
        go_wp2_with fail
        go_ret
        exact ⟨ret_b HZ.out.symm, HWb.out⟩
  · have HZ : Hid (b = false) := hide (by rw [← HB.out, decide_eq_false hlen]; rfl)
    have dn : ((n : Int) == (n1 : Int)) = false := beq_eq_false_iff_ne.2 (by omega)
    have dn1 : (n : Int) ≠ (n1 : Int) := by omega
    go_enter Try.func53, Try.ntmps53
    go_wp2_with fail
    have HBwb := (Blk.new w 30 #[.slice A1 n1 c1, v2, .int .i64 bg])
    have HLwb := (below_new w (.cells #[.slice A1 n1 c1, v2, .int .i64 bg] 30))
    have hswb : (w.alloc (.cells #[.slice A1 n1 c1, v2, .int .i64 bg] 30)).heap.size = w.heap.size + 1 := by simp
    generalize w.alloc (.cells #[.slice A1 n1 c1, v2, .int .i64 bg] 30) = wb at HBwb HLwb hswb ⊢
    replace HBwb := Lib.hid HBwb
    replace HLwb := Lib.hid HLwb
    have hlwb : w.heap.size < wb.heap.size := by omega
    replace hswb := Lib.hid hswb
    have HWb := Lib.hid (HLwb.out)
    have hl0 : w.heap.size ≤ wb.heap.size := HWb.out.size
    have HBb : Hid (Below wb.heap.size wb wb) := hide (Below.refl _ _)
    have hszb : wb.heap.size ≤ wb.heap.size := Nat.le_refl _
    have HX0b : Hid (Blk wb w.heap.size 30 #[.slice A1 n1 c1, v2, .int .i64 bg]) := hide HBwb.out
    have hxx0 : w.heap.size < wb.heap.size := HX0b.out.lt
    clear HBwb HLwb hswb hlwb
    go_ret
    exact ⟨ret_b HZ.out.symm, HWb.out⟩

set_option maxRecDepth 100000 in
set_option maxHeartbeats 4000000 in
theorem counted_any (v1 v2 : Value) (bg : Int) (runs people : List Int) (vp : Value) (b : Bool) (w : World) (hr1 : RowV w w.heap.size v1 runs) (hp : RowV w w.heap.size vp people) (hb : formB runs people = b) :
    Calls Try.prog 56 #[.agg #[v1, v2, .int .i64 bg], vp] w fun e w' => e = .returned (.bool b) ∧ Below w.heap.size w w' := by
  obtain ⟨A1, n1, c1, rfl, HL1, h11, h12, _⟩ := hr1.nam
  obtain ⟨A, n, c, rfl, HL, h3, h4, hr⟩ := hp.nam
  have HR := Lib.hid hr
  have hn : n ≤ maxLen := Nat.le_trans h3 h4
  have hn1 : n1 ≤ maxLen := Nat.le_trans h11 h12
  unfold maxLen at hn hn1
  have hu : formB runs people = (decide (n = n1) && people.all fun n => decide (0 ≤ n) && decide (n ≤ 1000000)) := by unfold formB; rw [HL1.out, HL.out]
  rw [hu] at hb
  have HB := Lib.hid hb
  clear hr1 hp hr hu hb h11 h12 h3 h4
  obtain ⟨g, hg⟩ : ∃ g : Int → Bool, g = fun n => decide (0 ≤ n) && decide (n ≤ 1000000) := ⟨_, rfl⟩
  rw [← hg] at HB
  have HG : Hid (∀ x, g x = (decide (0 ≤ x) && decide (x ≤ 1000000))) := fun x => by rw [hg]
  clear hg
  by_cases hlen : n = n1
  · subst hlen
    have HF0 : Hid (people.all g = b) := hide (by rw [← HB.out]; simp)
    go_enter Try.func56, Try.ntmps56
    go_wp2_with fail
    have HBwb := (Blk.new w 30 #[.slice A1 n c1, v2, .int .i64 bg])
    have HLwb := (below_new w (.cells #[.slice A1 n c1, v2, .int .i64 bg] 30))
    have hswb : (w.alloc (.cells #[.slice A1 n c1, v2, .int .i64 bg] 30)).heap.size = w.heap.size + 1 := by simp
    generalize w.alloc (.cells #[.slice A1 n c1, v2, .int .i64 bg] 30) = wb at HBwb HLwb hswb ⊢
    replace HBwb := Lib.hid HBwb
    replace HLwb := Lib.hid HLwb
    have hlwb : w.heap.size < wb.heap.size := by omega
    replace hswb := Lib.hid hswb
    have HWb := Lib.hid (HLwb.out)
    have hl0 : w.heap.size ≤ wb.heap.size := HWb.out.size
    have HBb : Hid (Below wb.heap.size wb wb) := hide (Below.refl _ _)
    have hszb : wb.heap.size ≤ wb.heap.size := Nat.le_refl _
    have HX0b : Hid (Blk wb w.heap.size 30 #[.slice A1 n c1, v2, .int .i64 bg]) := hide HBwb.out
    have hxx0 : w.heap.size < wb.heap.size := HX0b.out.lt
    clear HBwb HLwb hswb hlwb
    have HRb := Lib.hid (HR.out.now HWb.out)
    go_loopw [5] (fun i wr => ∃ k : Nat, k ≤ n ∧ i = .int .i64 k ∧ b = (people.drop k).all g ∧ wb = wr) (fun i _ => n - (intOf i).toNat)
    case atStart => exact ⟨0, by omega, rfl, HF0.out.symm, rfl⟩
    case round =>
      obtain ⟨k, hk, rfl, hF, rfl⟩ := hrel
      have HF := Lib.hid hF
      clear hF
      by_cases hlt : k < n
      · obtain ⟨ad, rfl, _, hc⟩ := HRb.out.int hlt
        have HS := Lib.hid (HF.out.trans (all_at g people k (by rw [HL.out]; exact hlt)))
        generalize people.getD k 0 = x at *
        have HGx := Lib.hid (HG.out x)
        go_wp2_with fail
        cases hg : g x with
        | false =>
          have HZ : Hid (b = false) := hide (HS.out.trans (by rw [hg]; rfl))
          with_reducible refine (rin_any x 0 1000000 false _ (by rw [← HGx.out]; exact hg)).mono ?_
          rintro e w' ⟨rfl, rfl⟩
          go_wp2_with fail
          go_ret
          exact ⟨ret_b HZ.out.symm, HWb.out⟩
        | true =>
        have HZ : Hid (b = (people.drop (k + 1)).all g) := hide (HS.out.trans (by rw [hg]; rfl))
        with_reducible refine (rin_any x 0 1000000 true _ (by rw [← HGx.out]; exact hg)).mono ?_
        rintro e w' ⟨rfl, rfl⟩
        go_wp2_with fail
        go_roundw
        case rel => exact ⟨k + 1, by omega, by go_num, HZ.out, by first | rfl | trivial⟩
        case measure => simp [intOf]; omega
      · obtain rfl : k = n := by omega
        have HZ : Hid (b = true) := by have h := HF.out; rw [List.drop_of_length_le (by rw [HL.out]; exact Nat.le_refl _)] at h; exact hide h
        go_wp2_with fail
        go_ret
        exact ⟨ret_b HZ.out.symm, HWb.out⟩
  · have HZ : Hid (b = false) := hide (by rw [← HB.out, decide_eq_false hlen]; rfl)
    have dn : ((n : Int) == (n1 : Int)) = false := beq_eq_false_iff_ne.2 (by omega)
    have dn1 : (n : Int) ≠ (n1 : Int) := by omega
    go_enter Try.func56, Try.ntmps56
    go_wp2_with fail
    have HBwb := (Blk.new w 30 #[.slice A1 n1 c1, v2, .int .i64 bg])
    have HLwb := (below_new w (.cells #[.slice A1 n1 c1, v2, .int .i64 bg] 30))
    have hswb : (w.alloc (.cells #[.slice A1 n1 c1, v2, .int .i64 bg] 30)).heap.size = w.heap.size + 1 := by simp
    generalize w.alloc (.cells #[.slice A1 n1 c1, v2, .int .i64 bg] 30) = wb at HBwb HLwb hswb ⊢
    replace HBwb := Lib.hid HBwb
    replace HLwb := Lib.hid HLwb
    have hlwb : w.heap.size < wb.heap.size := by omega
    replace hswb := Lib.hid hswb
    have HWb := Lib.hid (HLwb.out)
    have hl0 : w.heap.size ≤ wb.heap.size := HWb.out.size
    have HBb : Hid (Below wb.heap.size wb wb) := hide (Below.refl _ _)
    have hszb : wb.heap.size ≤ wb.heap.size := Nat.le_refl _
    have HX0b : Hid (Blk wb w.heap.size 30 #[.slice A1 n1 c1, v2, .int .i64 bg]) := hide HBwb.out
    have hxx0 : w.heap.size < wb.heap.size := HX0b.out.lt
    clear HBwb HLwb hswb hlwb
    go_ret
    exact ⟨ret_b HZ.out.symm, HWb.out⟩

set_option maxRecDepth 100000 in
set_option maxHeartbeats 4000000 in
theorem pushed_any (vn vl vr vb v1 v2 vp : Value) (bg : Int) (rs : List Rn) (bs runs people : List Int) (i : Nat) (w : World) (hm : StrV Rn.cells 7 w w.heap.size vr rs) (hb : RowV w w.heap.size vb bs) (hr1 : RowV w w.heap.size v1 runs) (hp : RowV w w.heap.size vp people) (hrl : people.length = runs.length) (hi : i < runs.length) (hlim : runs.length ≤ 1000) (hbd : ∀ z ∈ people, 0 ≤ z ∧ z ≤ 100000000000)
    (hlow : outR rs bs (runs.getD i 0) = false → 0 ≤ lowI (befR rs) runs (runs.getD i 0)) :
    Calls Try.prog 58 #[.agg #[vn, vl, vr, vb], .agg #[v1, v2, .int .i64 bg], vp, .int .i64 (i : Int)] w fun e w' => ∃ v, e = .returned (.tuple #[v, .int .i64 (pushN (befR rs) (outR rs bs) runs people i).2]) ∧ OwnI w' w.heap.size v (pushN (befR rs) (outR rs bs) runs people i).1 ∧ Below w.heap.size w w' := by
  obtain ⟨A1, n, c1, rfl, HL, h11, h12, hr1'⟩ := hr1.nam
  obtain ⟨Ap, np, cp, rfl, HLp, h3, h4, hp'⟩ := hp.nam
  have hnp : np = n := by rw [← HL.out, ← HLp.out]; exact hrl
  subst hnp
  have HRv := Lib.hid hr1
  have HR := Lib.hid hr1'
  have HBv := Lib.hid hb
  have HM := Lib.hid hm
  have HPp := Lib.hid hp'
  rw [HL.out] at hi hlim
  have HC1 : Hid (∀ (x : Int) (b : Bool) (W : World), StrV Rn.cells 7 W W.heap.size vr rs → RowV W W.heap.size vb bs → outR rs bs x = b → Calls Try.prog 68 #[.agg #[vn, vl, vr, vb], .int .i64 x] W fun e w' => e = .returned (.bool b) ∧ Below W.heap.size W w') := fun x b W q1 q2 q3 => by
    have h := rout_any vn vl vr vb rs bs x W q1 q2
    rwa [q3] at h
  have HC2 : Hid (∀ (x r : Int) (W : World), StrV Rn.cells 7 W W.heap.size vr rs → RowV W W.heap.size (.slice A1 np c1) runs → lowI (befR rs) runs x = r → Calls Try.prog 69 #[.agg #[vn, vl, vr, vb], .slice A1 np c1, .int .i64 x] W fun e w' => e = .returned (.int .i64 r) ∧ Below W.heap.size W w') := fun x r W q1 q2 q3 => by
    have h := rleast_any vn vl vr vb (.slice A1 np c1) rs runs x W q1 q2
    rwa [q3] at h
  have HLw : Hid (∀ x, lowI (befR rs) runs x < (np : Int)) := fun x => by have h := idx_bd (befR rs x) runs 0; rw [HL.out] at h; unfold lowI; omega
  have HPo : Hid (outR rs bs (runs.getD i 0) = true → pushN (befR rs) (outR rs bs) runs people i = (people.set i 0, people.getD i 0)) := fun h => push_out h
  have HPl : Hid (∀ j : Nat, outR rs bs (runs.getD i 0) = false → lowI (befR rs) runs (runs.getD i 0) = (j : Int) → pushN (befR rs) (outR rs bs) runs people i = ((people.set i 0).set j ((people.set i 0).getD j 0 + people.getD i 0), 0)) := fun j h hj => push_low h hj
  have HS1 : Hid (∀ j, 0 ≤ (people.set i 0).getD j 0 ∧ (people.set i 0).getD j 0 ≤ 100000000000) := fun j => getD_set_bd hbd i j (by omega)
  have HS0 := getD_bd hbd i (show (0 : Int) ≤ 100000000000 by omega)
  obtain ⟨ad, rfl, hab, hc⟩ := HR.out.int hi
  have HLow := Lib.hid hlow
  clear hm hb hr1 hr1' hp hp' hbd hrl hlow h11 h12 h3 h4
  generalize pushN (befR rs) (outR rs bs) runs people i = R at *
  generalize lowI (befR rs) runs = low at *
  generalize outR rs bs = out at *
  generalize runs.getD i 0 = x at *
  obtain ⟨p, hp⟩ : ∃ p, people.getD i 0 = p := ⟨_, rfl⟩
  rw [hp] at HPo HPl HS0
  have HPi := Lib.hid hp
  clear hp
  go_enter Try.func58, Try.ntmps58
  go_wp2_with
    (first
     | (refine wpList_box_blk rfl 27 (.tmp 0) rfl #[vn, vl, vr, vb] rfl ?_
        intro wz hxz hbz hsz
        have HXz := Lib.hid hxz
        have HBz := Lib.hid hbz
        have hlz : w.heap.size < wz.heap.size := hxz.lt
        clear hxz hbz hsz)
     | (refine wpList_box_blk rfl 30 (.tmp 1) rfl #[.slice (some ad) np c1, v2, .int .i64 bg] rfl ?_
        intro wb hxb hbb hsb
        have HX0b := Lib.hid (HXz.out.below hbb hlz)
        have HX1b := Lib.hid hxb
        have HWb := Lib.hid (HBz.out.trans (hbb.mono HBz.out.size))
        have hl0 : w.heap.size ≤ wb.heap.size := HWb.out.size
        have HBb : Hid (Below wb.heap.size wb wb) := hide (Below.refl _ _)
        have hszb : wb.heap.size ≤ wb.heap.size := Nat.le_refl _
        have hxx0 : w.heap.size < wb.heap.size := HX0b.out.lt
        have hxx1 : wz.heap.size < wb.heap.size := HX1b.out.lt
        have HMb := Lib.hid (HM.out.now HWb.out)
        have HRb := Lib.hid (HR.out.now HWb.out)
        have HBvb := Lib.hid (HBv.out.now HWb.out)
        have HRvb := Lib.hid (HRv.out.now HWb.out)
        have HPpb := Lib.hid (HPp.out.now HWb.out)
        clear hxb hbb hsb)
     | (at_builtin
        refine wpList_app _ ei_ints rfl (.tmp 13) (.tmp 14) rfl wb.heap.size (.slice (some ⟨wb.heap.size, 0, none⟩) 0 0) 0 [] rfl (World.ownsRow_lit wb #[] 0 (Nat.le_refl _) (by simp [maxLen]) rfl) wb.heap.size Ap np cp (people.map (Value.int .i64)) rfl (HPpb.out.alloc (Nat.le_refl _) _) (oneCell_ints people) (by simp only [maxLen]; omega) (by omega) (by simp) ?_
        intro v1' w1 hown1 _ hbw1 _
        have hb1 : Below wb.heap.size wb w1 := ((Below.refl _ _).alloc (Nat.le_refl _) _).trans hbw1
        simp only [Nat.zero_add, List.nil_append] at hown1
        obtain ⟨g, cap, rfl, hgb, hgl, hc1', hc2'⟩ := own_form hown1 (show 0 < np by omega)
        have HO1 : Hid (OwnG 3 w1 wb.heap.size g np cap people) := hide hown1
        have HB1 := Lib.hid hb1
        have p1 : w1.cell? ⟨g, i, none⟩ = some (.int .i64 p) := (OwnG.cell HO1.out hi).trans (by rw [HPi.out])
        clear hown1 hbw1 hb1)
     | (refine wpList_store_own 3 (.tmp 22) (.const (.int .i64 0)) rfl rfl HO1.out i hi (.int .i64 0) rfl rfl (by kernel_rfl) rfl rfl ?_
        intro w2 ho2 hon2
        have HO2 : Hid (OwnG 3 w2 wb.heap.size g np cap (people.set i 0)) := hide (OwnG.set_ ho2)
        have hb2 : Below wb.heap.size wb w2 := hon2.below HB1.out hgb
        have HB2 := Lib.hid (HBb.out.trans (hb2.mono hszb))
        have HW2 := Lib.hid (HWb.out.trans (hb2.mono HWb.out.size))
        have hsz2 : wb.heap.size ≤ w2.heap.size := Nat.le_trans hszb hb2.size
        have HX02 := Lib.hid (HX0b.out.below hb2 (Nat.lt_of_lt_of_le hxx0 hszb))
        have HX12 := Lib.hid (HX1b.out.below hb2 (Nat.lt_of_lt_of_le hxx1 hszb))
        have HM2 := Lib.hid (HMb.out.now hb2)
        have HR2 := Lib.hid (HRb.out.now hb2)
        have HBv2 := Lib.hid (HBvb.out.now hb2)
        have HRv2 := Lib.hid (HRvb.out.now hb2)
        clear ho2 hon2 hb2 p1))
  have hc2 : w2.cell? (ad.add i) = some (.int .i64 x) := (HW2.out.cell (by rw [block_of_add]; exact hab)).trans hc
  have hg2 : g < w2.heap.size := (World.ownsRow.lt HO2.out g rfl).2
  have HS2 : Hid (∀ W, Below w2.heap.size w2 W → (fun W => Below w2.heap.size w2 W ∧ W.cell? (ad.add i) = some (.int .i64 x) ∧ Blk W w.heap.size 27 #[vn, vl, vr, vb] ∧ W.cell? ⟨wz.heap.size, 0, none⟩ = some (.slice (some ad) np c1)) W) := fun W hB => ⟨hB, (hB.cell (by rw [block_of_add]; exact Nat.lt_of_lt_of_le hab HW2.out.size)).trans hc2, HX02.out.below hB (Nat.lt_of_lt_of_le hxx0 hsz2), (HX12.out.below hB (Nat.lt_of_lt_of_le hxx1 hsz2)).cell 0⟩
  have h0 := HS2.out _ ((Below.refl w2.heap.size w2).drew)
  have HM2d : Hid (StrV Rn.cells 7 w2.drew w2.drew.heap.size vr rs) := hide HM2.out
  have HBv2d : Hid (RowV w2.drew w2.drew.heap.size vb bs) := hide HBv2.out
  obtain ⟨ox, hox⟩ : ∃ y, out x = y := ⟨_, rfl⟩
  have HOx := Lib.hid hox
  have HLowx := Lib.hid HLow.out
  rw [hox] at HLowx HPo HPl
  clear hox
  cases ox with
  | true =>
    have HE := Lib.hid (HPo.out (by simp))
    refine wp_region_held_drew (S := fun W => Below w2.heap.size w2 W ∧ W.cell? (ad.add i) = some (.int .i64 x) ∧ Blk W w.heap.size 27 #[vn, vl, vr, vb] ∧ W.cell? ⟨wz.heap.size, 0, none⟩ = some (.slice (some ad) np c1)) (by kernel_rfl) (h0) (fun hHeld => ?_)
    refine held_load 0 (some 23) 27 (.tmp 4) (by rfl) (by kernel_rfl) (by kernel_rfl) (by kernel_rfl) (w.heap.size) 27 #[vn, vl, vr, vb] (fun _ _ _ h => h) (by rfl) (fun _ h => h.2.2.1) _ Try.underlying27 rfl (by kernel_rfl) (by assumption) ?_
    try simp only [Act.put, List.setIfInBounds_toArray, List.set_cons_zero, List.set_cons_succ]
    refine held_run 1 (some 24) (.fieldAddr 30 (.tmp 5) 0) ?v4_1_3 (by rfl) (by kernel_rfl) (by kernel_rfl) (by kernel_rfl) (fun _ _ _ h => h) (fun o ho w hS => ?y4_1_3) (by assumption) ?r4_1_3
    case y4_1_3 => (try dsimp only at hS); unfold execOp; simp only [ho]; go_simp; try with_reducible rfl
    try simp only [Act.put, List.setIfInBounds_toArray, List.set_cons_zero, List.set_cons_succ]
    refine held_run 2 (some 25) (.load 25 (.tmp 24)) ?v4_1_4 (by rfl) (by kernel_rfl) (by kernel_rfl) (by kernel_rfl) (fun _ _ _ h => h) (fun o ho w hS => ?y4_1_4) (by assumption) ?r4_1_4
    case y4_1_4 => (try dsimp only at hS); unfold execOp; simp only [ho]; go_simp; try with_reducible rfl
    try simp only [Act.put, List.setIfInBounds_toArray, List.set_cons_zero, List.set_cons_succ]
    refine held_run 3 (some 26) (.move (.tmp 3)) ?v4_1_5 (by rfl) (by kernel_rfl) (by kernel_rfl) (by kernel_rfl) (fun _ _ _ h => h) (fun o ho w hS => ?y4_1_5) (by assumption) ?r4_1_5
    case y4_1_5 => (try dsimp only at hS); unfold execOp; simp only [ho]; go_simp; try with_reducible rfl
    try simp only [Act.put, List.setIfInBounds_toArray, List.set_cons_zero, List.set_cons_succ]
    refine held_run 4 (some 27) (.indexAddr 25 (.tmp 25) (.tmp 26)) ?v4_1_6 (by rfl) (by kernel_rfl) (by kernel_rfl) (by kernel_rfl) (fun _ _ _ h => h) (fun o ho w hS => ?y4_1_6) (by assumption) ?r4_1_6
    case y4_1_6 => (try dsimp only at hS); unfold execOp; simp only [ho]; go_simp; try with_reducible rfl
    try simp only [Act.put, List.setIfInBounds_toArray, List.set_cons_zero, List.set_cons_succ]
    refine held_run 5 (some 28) (.load 3 (.tmp 27)) ?v4_1_7 (by rfl) (by kernel_rfl) (by kernel_rfl) (by kernel_rfl) (fun _ _ _ h => h) (fun o ho w hS => ?y4_1_7) (by assumption) ?r4_1_7
    case y4_1_7 => (try dsimp only at hS); unfold execOp; simp only [ho]; go_simp; try with_reducible rfl
    try simp only [Act.put, List.setIfInBounds_toArray, List.set_cons_zero, List.set_cons_succ]
    refine held_call 6 (some 29) 68 [(.tmp 23), (.tmp 28)] #[27, 3] #[.agg #[vn, vl, vr, vb], .int .i64 x] (by rfl) (by rfl) (by kernel_rfl) Try.func68 (by rfl) (by rfl) ?_
    refine (HC1.out x true _ HM2d.out HBv2d.out HOx.out).mono ?_
    rintro e w3 ⟨rfl, hb3⟩
    have hbb3 : Below w2.heap.size w2 w3 := (Below.refl w2.heap.size w2).drew.trans hb3
    have HO3 : Hid (OwnG 3 w3 wb.heap.size g np cap (people.set i 0)) := hide (own_below HO2.out hbb3 (Nat.le_refl _))
    clear h0
    have h0 := HS2.out _ hbb3
    have hc3 := h0.2.1
    have HB3 := Lib.hid (HB2.out.trans (hbb3.mono hsz2))
    have HW3 := Lib.hid (HW2.out.trans (hbb3.mono HW2.out.size))
    have hsz3 : wb.heap.size ≤ w3.heap.size := Nat.le_trans hsz2 hbb3.size
    have HX03 := Lib.hid (HX02.out.below hbb3 (Nat.lt_of_lt_of_le hxx0 hsz2))
    have HX13 := Lib.hid (HX12.out.below hbb3 (Nat.lt_of_lt_of_le hxx1 hsz2))
    have HM3 := Lib.hid (HM2.out.now hbb3)
    have HR3 := Lib.hid (HR2.out.now hbb3)
    have HBv3 := Lib.hid (HBv2.out.now hbb3)
    have HRv3 := Lib.hid (HRv2.out.now hbb3)
    refine ⟨_, rfl, h0, ?_⟩
    clear hb3 hbb3
    try simp only [Act.put, List.setIfInBounds_toArray, List.set_cons_zero, List.set_cons_succ]
    refine wpAnyH_done (by kernel_rfl) ?_ _
    go_wp2_with fail
    go_ret2
    exact ⟨_, by rw [HE.out]; rfl, own_i hl0 HO3.out (by rw [HE.out]; simpa using HLp.out.symm) (by rw [HE.out]), HW3.out⟩
  | false =>
    refine wp_region_held_drew (S := fun W => Below w2.heap.size w2 W ∧ W.cell? (ad.add i) = some (.int .i64 x) ∧ Blk W w.heap.size 27 #[vn, vl, vr, vb] ∧ W.cell? ⟨wz.heap.size, 0, none⟩ = some (.slice (some ad) np c1)) (by kernel_rfl) (h0) (fun hHeld => ?_)
    refine held_load 0 (some 23) 27 (.tmp 4) (by rfl) (by kernel_rfl) (by kernel_rfl) (by kernel_rfl) (w.heap.size) 27 #[vn, vl, vr, vb] (fun _ _ _ h => h) (by rfl) (fun _ h => h.2.2.1) _ Try.underlying27 rfl (by kernel_rfl) (by assumption) ?_
    try simp only [Act.put, List.setIfInBounds_toArray, List.set_cons_zero, List.set_cons_succ]
    refine held_run 1 (some 24) (.fieldAddr 30 (.tmp 5) 0) ?v4_9_11 (by rfl) (by kernel_rfl) (by kernel_rfl) (by kernel_rfl) (fun _ _ _ h => h) (fun o ho w hS => ?y4_9_11) (by assumption) ?r4_9_11
    case y4_9_11 => (try dsimp only at hS); unfold execOp; simp only [ho]; go_simp; try with_reducible rfl
    try simp only [Act.put, List.setIfInBounds_toArray, List.set_cons_zero, List.set_cons_succ]
    refine held_run 2 (some 25) (.load 25 (.tmp 24)) ?v4_9_12 (by rfl) (by kernel_rfl) (by kernel_rfl) (by kernel_rfl) (fun _ _ _ h => h) (fun o ho w hS => ?y4_9_12) (by assumption) ?r4_9_12
    case y4_9_12 => (try dsimp only at hS); unfold execOp; simp only [ho]; go_simp; try with_reducible rfl
    try simp only [Act.put, List.setIfInBounds_toArray, List.set_cons_zero, List.set_cons_succ]
    refine held_run 3 (some 26) (.move (.tmp 3)) ?v4_9_13 (by rfl) (by kernel_rfl) (by kernel_rfl) (by kernel_rfl) (fun _ _ _ h => h) (fun o ho w hS => ?y4_9_13) (by assumption) ?r4_9_13
    case y4_9_13 => (try dsimp only at hS); unfold execOp; simp only [ho]; go_simp; try with_reducible rfl
    try simp only [Act.put, List.setIfInBounds_toArray, List.set_cons_zero, List.set_cons_succ]
    refine held_run 4 (some 27) (.indexAddr 25 (.tmp 25) (.tmp 26)) ?v4_9_14 (by rfl) (by kernel_rfl) (by kernel_rfl) (by kernel_rfl) (fun _ _ _ h => h) (fun o ho w hS => ?y4_9_14) (by assumption) ?r4_9_14
    case y4_9_14 => (try dsimp only at hS); unfold execOp; simp only [ho]; go_simp; try with_reducible rfl
    try simp only [Act.put, List.setIfInBounds_toArray, List.set_cons_zero, List.set_cons_succ]
    refine held_run 5 (some 28) (.load 3 (.tmp 27)) ?v4_9_15 (by rfl) (by kernel_rfl) (by kernel_rfl) (by kernel_rfl) (fun _ _ _ h => h) (fun o ho w hS => ?y4_9_15) (by assumption) ?r4_9_15
    case y4_9_15 => (try dsimp only at hS); unfold execOp; simp only [ho]; go_simp; try with_reducible rfl
    try simp only [Act.put, List.setIfInBounds_toArray, List.set_cons_zero, List.set_cons_succ]
    refine held_call 6 (some 29) 68 [(.tmp 23), (.tmp 28)] #[27, 3] #[.agg #[vn, vl, vr, vb], .int .i64 x] (by rfl) (by rfl) (by kernel_rfl) Try.func68 (by rfl) (by rfl) ?_
    refine (HC1.out x false _ HM2d.out HBv2d.out HOx.out).mono ?_
    rintro e w3 ⟨rfl, hb3⟩
    have hbb3 : Below w2.heap.size w2 w3 := (Below.refl w2.heap.size w2).drew.trans hb3
    have HO3 : Hid (OwnG 3 w3 wb.heap.size g np cap (people.set i 0)) := hide (own_below HO2.out hbb3 (Nat.le_refl _))
    clear h0
    have h0 := HS2.out _ hbb3
    have hc3 := h0.2.1
    have HB3 := Lib.hid (HB2.out.trans (hbb3.mono hsz2))
    have HW3 := Lib.hid (HW2.out.trans (hbb3.mono HW2.out.size))
    have hsz3 : wb.heap.size ≤ w3.heap.size := Nat.le_trans hsz2 hbb3.size
    have HX03 := Lib.hid (HX02.out.below hbb3 (Nat.lt_of_lt_of_le hxx0 hsz2))
    have HX13 := Lib.hid (HX12.out.below hbb3 (Nat.lt_of_lt_of_le hxx1 hsz2))
    have HM3 := Lib.hid (HM2.out.now hbb3)
    have HR3 := Lib.hid (HR2.out.now hbb3)
    have HBv3 := Lib.hid (HBv2.out.now hbb3)
    have HRv3 := Lib.hid (HRv2.out.now hbb3)
    refine ⟨_, rfl, h0, ?_⟩
    clear hb3 hbb3
    try simp only [Act.put, List.setIfInBounds_toArray, List.set_cons_zero, List.set_cons_succ]
    refine wpAnyH_done (by kernel_rfl) ?_ _
    clear h0 HS2
    go_wp2_with fail
    have hl3 := HLowx.out (by simp)
    have hlb := HLw.out x
    obtain ⟨lx, hlx⟩ : ∃ y, low x = y := ⟨_, rfl⟩
    have HLx := Lib.hid hlx
    rw [hlx] at hl3 hlb
    obtain ⟨j, rfl⟩ : ∃ j : Nat, lx = (j : Int) := ⟨lx.toNat, by omega⟩
    clear hlx
    have hj : j < np := by omega
    have hj2 : (j : Int) < (np : Int) := by omega
    have HE := Lib.hid (HPl.out j (by simp) HLx.out)
    have hS1 := HS1.out j
    obtain ⟨q, hq2⟩ : ∃ q, (people.set i 0).getD j 0 = q := ⟨_, rfl⟩
    have HQ := Lib.hid hq2
    rw [hq2] at hS1 HE
    clear hq2
    have hwq : IntKind.i64.wrap (q + p) = q + p := IntWalk.i64_in _ (by omega)
    have HS3 : Hid (∀ W, Below w3.heap.size w3 W → (fun W => Below w3.heap.size w3 W ∧ W.cell? (ad.add i) = some (.int .i64 x) ∧ Blk W w.heap.size 27 #[vn, vl, vr, vb] ∧ W.cell? ⟨wz.heap.size, 0, none⟩ = some (.slice (some ad) np c1)) W) := fun W hB => ⟨hB, (hB.cell (by rw [block_of_add]; exact Nat.lt_of_lt_of_le hab HW3.out.size)).trans hc3, HX03.out.below hB (Nat.lt_of_lt_of_le hxx0 hsz3), (HX13.out.below hB (Nat.lt_of_lt_of_le hxx1 hsz3)).cell 0⟩
    have h0 := HS3.out _ ((Below.refl w3.heap.size w3).drew)
    have HM3d : Hid (StrV Rn.cells 7 w3.drew w3.drew.heap.size vr rs) := hide HM3.out
    have HRv3d : Hid (RowV w3.drew w3.drew.heap.size (.slice (some ad) np c1) runs) := hide HRv3.out
    refine wp_region_held_drew (S := fun W => Below w3.heap.size w3 W ∧ W.cell? (ad.add i) = some (.int .i64 x) ∧ Blk W w.heap.size 27 #[vn, vl, vr, vb] ∧ W.cell? ⟨wz.heap.size, 0, none⟩ = some (.slice (some ad) np c1)) (by kernel_rfl) (h0) (fun hHeld => ?_)
    refine held_load 0 (some 32) 27 (.tmp 4) (by rfl) (by kernel_rfl) (by kernel_rfl) (by kernel_rfl) (w.heap.size) 27 #[vn, vl, vr, vb] (fun _ _ _ h => h) (by rfl) (fun _ h => h.2.2.1) _ Try.underlying27 rfl (by kernel_rfl) (by assumption) ?_
    try simp only [Act.put, List.setIfInBounds_toArray, List.set_cons_zero, List.set_cons_succ]
    refine held_run 1 (some 33) (.fieldAddr 30 (.tmp 5) 0) ?v6_17_19 (by rfl) (by kernel_rfl) (by kernel_rfl) (by kernel_rfl) (fun _ _ _ h => h) (fun o ho w hS => ?y6_17_19) (by assumption) ?r6_17_19
    case y6_17_19 => (try dsimp only at hS); unfold execOp; simp only [ho]; go_simp; try with_reducible rfl
    try simp only [Act.put, List.setIfInBounds_toArray, List.set_cons_zero, List.set_cons_succ]
    refine held_run 2 (some 34) (.load 25 (.tmp 33)) ?v6_17_20 (by rfl) (by kernel_rfl) (by kernel_rfl) (by kernel_rfl) (fun _ _ _ h => h) (fun o ho w hS => ?y6_17_20) (by assumption) ?r6_17_20
    case y6_17_20 => (try dsimp only at hS); unfold execOp; simp only [ho]; go_simp; try with_reducible rfl
    try simp only [Act.put, List.setIfInBounds_toArray, List.set_cons_zero, List.set_cons_succ]
    refine held_run 3 (some 35) (.fieldAddr 30 (.tmp 5) 0) ?v6_17_21 (by rfl) (by kernel_rfl) (by kernel_rfl) (by kernel_rfl) (fun _ _ _ h => h) (fun o ho w hS => ?y6_17_21) (by assumption) ?r6_17_21
    case y6_17_21 => (try dsimp only at hS); unfold execOp; simp only [ho]; go_simp; try with_reducible rfl
    try simp only [Act.put, List.setIfInBounds_toArray, List.set_cons_zero, List.set_cons_succ]
    refine held_run 4 (some 36) (.load 25 (.tmp 35)) ?v6_17_22 (by rfl) (by kernel_rfl) (by kernel_rfl) (by kernel_rfl) (fun _ _ _ h => h) (fun o ho w hS => ?y6_17_22) (by assumption) ?r6_17_22
    case y6_17_22 => (try dsimp only at hS); unfold execOp; simp only [ho]; go_simp; try with_reducible rfl
    try simp only [Act.put, List.setIfInBounds_toArray, List.set_cons_zero, List.set_cons_succ]
    refine held_run 5 (some 37) (.move (.tmp 3)) ?v6_17_23 (by rfl) (by kernel_rfl) (by kernel_rfl) (by kernel_rfl) (fun _ _ _ h => h) (fun o ho w hS => ?y6_17_23) (by assumption) ?r6_17_23
    case y6_17_23 => (try dsimp only at hS); unfold execOp; simp only [ho]; go_simp; try with_reducible rfl
    try simp only [Act.put, List.setIfInBounds_toArray, List.set_cons_zero, List.set_cons_succ]
    refine held_run 6 (some 38) (.indexAddr 25 (.tmp 36) (.tmp 37)) ?v6_17_24 (by rfl) (by kernel_rfl) (by kernel_rfl) (by kernel_rfl) (fun _ _ _ h => h) (fun o ho w hS => ?y6_17_24) (by assumption) ?r6_17_24
    case y6_17_24 => (try dsimp only at hS); unfold execOp; simp only [ho]; go_simp; try with_reducible rfl
    try simp only [Act.put, List.setIfInBounds_toArray, List.set_cons_zero, List.set_cons_succ]
    refine held_run 7 (some 39) (.load 3 (.tmp 38)) ?v6_17_25 (by rfl) (by kernel_rfl) (by kernel_rfl) (by kernel_rfl) (fun _ _ _ h => h) (fun o ho w hS => ?y6_17_25) (by assumption) ?r6_17_25
    case y6_17_25 => (try dsimp only at hS); unfold execOp; simp only [ho]; go_simp; try with_reducible rfl
    try simp only [Act.put, List.setIfInBounds_toArray, List.set_cons_zero, List.set_cons_succ]
    refine held_call 8 (some 40) 69 [(.tmp 32), (.tmp 34), (.tmp 39)] #[27, 25, 3] #[.agg #[vn, vl, vr, vb], .slice (some ad) np c1, .int .i64 x] (by rfl) (by rfl) (by kernel_rfl) Try.func69 (by rfl) (by rfl) ?_
    refine (HC2.out x (j : Int) _ HM3d.out HRv3d.out HLx.out).mono ?_
    rintro e w4 ⟨rfl, hb4⟩
    have hbb4 : Below w3.heap.size w3 w4 := (Below.refl w3.heap.size w3).drew.trans hb4
    have HO4 : Hid (OwnG 3 w4 wb.heap.size g np cap (people.set i 0)) := hide (own_below HO3.out hbb4 (Nat.le_refl _))
    have HW4 : Hid (Below w.heap.size w w4) := hide (HW3.out.trans (hbb4.mono HW3.out.size))
    have HB4 : Hid (Below wb.heap.size wb w4) := hide (HB3.out.trans (hbb4.mono hsz3))
    have c4 : w4.cell? ⟨g, j, none⟩ = some (.int .i64 q) := (OwnG.cell HO4.out hj).trans (by rw [HQ.out])
    clear h0
    have h0 := HS3.out _ hbb4
    refine ⟨_, rfl, h0, ?_⟩
    clear hb4 hbb4
    try simp only [Act.put, List.setIfInBounds_toArray, List.set_cons_zero, List.set_cons_succ]
    refine held_run 9 (some 12) (.assign (.tmp 40)) ?v6_17_27 (by rfl) (by kernel_rfl) (by kernel_rfl) (by kernel_rfl) (fun _ _ _ h => h) (fun o ho w hS => ?y6_17_27) (by assumption) ?r6_17_27
    case y6_17_27 => (try dsimp only at hS); unfold execOp; simp only [ho]; go_simp; try with_reducible rfl
    try simp only [Act.put, List.setIfInBounds_toArray, List.set_cons_zero, List.set_cons_succ]
    refine wpAnyH_done (by kernel_rfl) ?_ _
    clear h0 HS3
    go_wp2_with
      (first
       | (refine wpList_store_own 3 (.tmp 49) (.tmp 48) rfl rfl HO4.out j hj (.int .i64 (q + p)) rfl rfl (by kernel_rfl) rfl rfl ?_
          intro w6 ho6 hon6
          have HO6 := Lib.hid (OwnG.set_ ho6)
          have HB6 := Lib.hid (hon6.below HB4.out hgb)
          clear ho6 hon6))
    go_ret2
    exact ⟨_, by rw [HE.out]; rfl, own_i hl0 HO6.out (by rw [HE.out]; simpa using HLp.out.symm) (by rw [HE.out]), HWb.out.trans (HB6.out.mono hl0)⟩
end Go.Proofs.Yticoeibccdplaaa
