/-
  Chapter 55: Add of the program and of its reference, the comparing of crossings, walked.
-/
import Derived.Test.YtihmboibpjfohaaCenB
import Derived.Test.YtihmboibpjfohaaCenBr
import Derived.Test.YtihmboibpjfohaaRegC
import Derived.Test.YtihmboibpjfohaaRegA
namespace Go.Proofs.Ytihmboibpjfohaa
open Go.RowKit

theorem ei_cr : EInfo Try.prog 22 24 4 32 := EInfo.mk' Try.underlying22 (z := .agg #[.int .i64 0, .int .i64 0, .int .i64 0, .int .i64 0]) (by kernel_rfl) rfl (by omega)
/-- a slice of crossings of the call's own -/
def OwnCr (w : World) (base : Nat) (v : Value) (l : List Cr) : Prop := w.ownsRow base 24 4 v l.length (l.map Cr.cells).flatten
theorem OwnCr.nil (w : World) (base : Nat) : OwnCr w base (.slice none 0 0) [] := World.ownsRow_nil _ _ _ _
theorem OwnCr.strV {w : World} {base : Nat} {v : Value} {l : List Cr} (h : OwnCr w base v l) : StrV Cr.cells 4 w w.heap.size v l := by
  obtain ⟨A, c, rfl, h1, h2, h3⟩ := own_open h
  exact ⟨A, c, rfl, h1, h2, h3⟩
theorem OwnCr.snoc {w : World} {base n : Nat} {v : Value} {l : List Cr} {r : Cr} {xs : List Value} (h : w.ownsRow base 24 4 v n xs) (hn : n = l.length + 1) (hx : xs = (l.map Cr.cells).flatten ++ Cr.cells r) : OwnCr w base v (l ++ [r]) := by
  subst hn hx
  unfold OwnCr
  simpa using h
theorem strV_nil {α : Type} (f : α → List Value) (s : Nat) (w : World) (B : Nat) : StrV f s w B (.slice none 0 0) [] := ⟨none, 0, rfl, Nat.le_refl _, by simp [maxLen], Reads.empty⟩
theorem one_cr (r : Cr) : ∀ u ∈ Cr.cells r, u.oneCell' = true := by
  intro u hu
  simp only [Cr.cells, List.mem_cons, List.not_mem_nil, or_false] at hu
  rcases hu with rfl | rfl | rfl | rfl <;> rfl
theorem one_crs (l : List Cr) : ∀ u ∈ (l.map Cr.cells).flatten, u.oneCell' = true := by
  intro u hu
  obtain ⟨x, hx, hu⟩ := List.mem_flatten.1 hu
  obtain ⟨r, _, rfl⟩ := List.mem_map.1 hx
  exact one_cr r u hu
def addC (l : List Cr) (c : Cr) : List Cr := if rightC (l ++ [c]) = 0 then l ++ [c] else []

set_option maxRecDepth 100000 in
theorem clone_any (A : Option Addr) (n c : Nat) (l : List Cr) (w : World) (base : Nat) (hr : Strs Cr.cells 4 w w.heap.size A n l) (hl : l.length = n) (hc : n ≤ c) (hc2 : c ≤ maxLen) (hn : n ≤ 1000000) (hbase : base ≤ w.heap.size) :
    Calls Try.prog 29 #[.slice A n c] w fun e w' => ∃ v, e = .returned v ∧ w'.ownsRow base 24 4 v l.length (l.map Cr.cells).flatten ∧ Below w.heap.size w w' := by
  have HR := Lib.hid hr
  have HL := Lib.hid hl
  clear hr hl
  have q : ∀ (w : World) (a : Option Addr) (n c n' c' : Nat), (binOp .eql 22 (.slice a n c) (.slice none n' c')).run Try.prog w = .ok (.bool a.isNone) w := fun w a n c n' c' => Lib.run_eql_slice_nil w _ _ a n c n' c' Try.underlying22
  cases A with
  | none =>
    have hn0 : n = 0 := by
      rcases Nat.eq_zero_or_pos n with h | h
      · exact h
      · obtain ⟨ad, h1, _⟩ := HR.out.2 h
        cases h1
    subst hn0
    go_enter Try.func29, Try.ntmps29
    go_wp2
    go_ret
    refine ⟨_, rfl, ?_, Below.refl _ _⟩
    rw [List.eq_nil_of_length_eq_zero HL.out]
    exact World.ownsRow_nil _ _ _ _
  | some ad =>
    go_enter Try.func29, Try.ntmps29
    go_wp2_with
      (at_builtin
       refine wpList_app _ ei_cr rfl (.tmp 5) (.tmp 6) rfl base (.slice (some ⟨w.heap.size, 0, none⟩) 0 0) 0 [] rfl (World.ownsRow_lit w #[] 0 hbase (by simp [maxLen]) rfl) w.heap.size (some ad) n c (l.map Cr.cells).flatten rfl (HR.out.alloc (Nat.le_refl _) _) (one_crs l) (by simp only [maxLen]; omega) (by omega) (by simp; omega) ?_
       intro v2 w2 hown2 hg2 hbw2 _
       have hbw : Below w.heap.size w w2 := (below_new w _).trans (below_of_own (World.ownsRow_lit (e := 24) (size := 4) w #[] 0 (Nat.le_refl _) (by simp [maxLen]) rfl) hg2 (by simp))
       simp only [Nat.zero_add, List.nil_append] at hown2
       have HO := Lib.hid hown2
       clear hown2 hbw2 hg2)
    go_ret
    exact ⟨_, rfl, by rw [HL.out]; exact HO.out, hbw⟩

set_option maxRecDepth 100000 in
set_option maxHeartbeats 4000000 in
theorem add_any (v : Value) (l : List Cr) (kd pl nm at_ : Int) (w : World) (hv : StrV Cr.cells 4 w w.heap.size v l) (hlen : l.length ≤ 100000) :
    Calls Try.prog 10 #[v, .agg #[.int .i64 kd, .int .i64 pl, .int .i64 nm, .int .i64 at_]] w fun e w' => ∃ v', e = .returned (.tuple #[v', .int .i64 ((rightC (l ++ [(⟨kd, pl, nm, at_⟩ : Cr)]) : Nat) : Int)]) ∧ StrV Cr.cells 4 w' w'.heap.size v' (addC l (⟨kd, pl, nm, at_⟩ : Cr)) ∧ Below w.heap.size w w' := by
  obtain ⟨A, n, c, rfl, HN, hc1, hc2, hr⟩ := hv.nam
  have HR := Lib.hid hr
  have hn : n ≤ 100000 := by rw [← HN.out]; exact hlen
  have HA0 : Hid (rightC (l ++ [(⟨kd, pl, nm, at_⟩ : Cr)]) = 0 → addC l (⟨kd, pl, nm, at_⟩ : Cr) = l ++ [(⟨kd, pl, nm, at_⟩ : Cr)]) := fun h => by unfold addC; rw [if_pos h]
  have HA1 : Hid (rightC (l ++ [(⟨kd, pl, nm, at_⟩ : Cr)]) ≠ 0 → addC l (⟨kd, pl, nm, at_⟩ : Cr) = []) := fun h => by unfold addC; rw [if_neg h]
  have HRt : Hid (∀ (v : Value) (W : World), StrV Cr.cells 4 W W.heap.size v (l ++ [(⟨kd, pl, nm, at_⟩ : Cr)]) → Calls Try.prog 12 #[v] W fun e w' => e = .returned (.int .i64 ((rightC (l ++ [(⟨kd, pl, nm, at_⟩ : Cr)]) : Nat) : Int)) ∧ Below W.heap.size W w') := fun v W h => right_any v _ W h
  generalize rightC (l ++ [(⟨kd, pl, nm, at_⟩ : Cr)]) = q at *
  generalize addC l (⟨kd, pl, nm, at_⟩ : Cr) = al at *
  clear hv hr hlen
  go_enter Try.func10, Try.ntmps10
  go_wp2_with fail
  have HBw1 := (Blk.new w 24 #[.int .i64 kd, .int .i64 pl, .int .i64 nm, .int .i64 at_])
  have HLw1 := (below_new w (.cells #[.int .i64 kd, .int .i64 pl, .int .i64 nm, .int .i64 at_] 24))
  have hsw1 : (w.alloc (.cells #[.int .i64 kd, .int .i64 pl, .int .i64 nm, .int .i64 at_] 24)).heap.size = w.heap.size + 1 := by simp
  generalize w.alloc (.cells #[.int .i64 kd, .int .i64 pl, .int .i64 nm, .int .i64 at_] 24) = w1 at HBw1 HLw1 hsw1 ⊢
  replace HBw1 := Lib.hid HBw1
  replace HLw1 := Lib.hid HLw1
  have hlw1 : w.heap.size < w1.heap.size := by omega
  replace hsw1 := Lib.hid hsw1
  have HX1 := HBw1
  have hl1 := hlw1
  have HB1 := HLw1
  have HS1 : Hid (Strs Cr.cells 4 w1 w1.heap.size A n l) := hide (HR.out.now HB1.out)
  have HBd : Hid (Below w1.heap.size w1 w1.drew) := hide (Below.refl _ _).drew
  clear HBw1 HLw1 hsw1 hlw1
  go_cut [6] (fun s wx => OwnCr wx w1.heap.size s (l ++ [(⟨kd, pl, nm, at_⟩ : Cr)]) ∧ Below w1.heap.size w1 wx)
  case first =>
    refine wp_region_held_drew (S := fun W => Blk W w.heap.size 24 #[.int .i64 kd, .int .i64 pl, .int .i64 nm, .int .i64 at_]) (by kernel_rfl) (HX1.out.drew) (fun hHeld => ?_)
    refine held_run 0 (some 8) (.move (.tmp 0)) ?v1_1_2 (by rfl) (by kernel_rfl) (by kernel_rfl) (by kernel_rfl) (fun _ _ _ h => h) (fun o ho w hS => ?y1_1_2) (by assumption) ?r1_1_2
    case y1_1_2 => (try dsimp only at hS); unfold execOp; simp only [ho]; go_simp; try with_reducible rfl
    try simp only [Act.put, List.setIfInBounds_toArray, List.set_cons_zero, List.set_cons_succ]
    refine held_load 2 (some 10) 24 (.tmp 3) (by rfl) (by kernel_rfl) (by kernel_rfl) (by kernel_rfl) (w.heap.size) 24 #[.int .i64 kd, .int .i64 pl, .int .i64 nm, .int .i64 at_] (fun _ _ _ h => h) (by rfl) (fun _ h => h) _ Try.underlying24 rfl (by kernel_rfl) (by assumption) ?_
    try simp only [Act.put, List.setIfInBounds_toArray, List.set_cons_zero, List.set_cons_succ]
    refine held_two 1 3 (by kernel_rfl) ?_ ?_
    · refine op_call 1 (some 9) 29 [(.tmp 8)] #[22] #[.slice A n c] (by rfl) (by rfl) Try.func29 (by rfl) (by rfl) ?_
      have W5 := clone_any A n c l w1.drew w1.heap.size (HS1.out.now HBd.out) HN.out hc1 hc2 (by omega) HBd.out.size
      refine W5.mono ?_
      rintro e wa ⟨va, rfl, ho, hb⟩
      have HBa := Lib.hid (HBd.out.trans (hb.mono HBd.out.size))
      have HOa : Hid (wa.ownsRow w1.heap.size 24 4 va n (l.map Cr.cells).flatten) := hide (by rw [← HN.out]; exact ho)
      clear ho hb W5
      have hHa : (fun W => Blk W w.heap.size 24 #[.int .i64 kd, .int .i64 pl, .int .i64 nm, .int .i64 at_]) wa := HX1.out.below HBa.out hl1
      refine ⟨_, rfl, hHa, ?_⟩
      try simp only [Act.put, List.setIfInBounds_toArray, List.set_cons_zero, List.set_cons_succ]
      refine held_one 3 (by kernel_rfl) ?_
      refine op_lit 3 (some 11) 22 24 1 #[(0, .tmp 10)] #[.int .i64 kd, .int .i64 pl, .int .i64 nm, .int .i64 at_] (by rfl) (by simp only [List.map_toArray, List.map_cons, List.map_nil]; exact run_lit1 (P := Try.prog) wa 22 24 _ _ _ _ Try.underlying22 (by kernel_rfl)) ?_
      intro wb hx hb _
      have HBb := Lib.hid (HBa.out.trans (hb.mono HBa.out.size))
      have HLb := Lib.hid hx
      have HOb := Lib.hid (own_below HOa.out hb (Nat.le_refl _))
      clear hx hb
      refine ⟨HX1.out.below HBb.out hl1, ?_⟩
      try simp only [Act.put, List.setIfInBounds_toArray, List.set_cons_zero, List.set_cons_succ]
      refine held_one 4 (by kernel_rfl) ?_
      refine op_app ei_cr 4 (some 12) (.tmp 9) (.tmp 11) (by rfl) w1.heap.size _ n (l.map Cr.cells).flatten rfl (HOb.out) wb.heap.size (some ⟨wa.heap.size, 0, none⟩) 1 1 (Cr.cells (⟨kd, pl, nm, at_⟩ : Cr)) rfl (reads_blk HLb.out rfl) (one_cr _) (by simp only [maxLen]; omega) (by omega) (HBb.out.size) ?_
      intro vd wd hown _ hb _
      have HBx := Lib.hid (HBb.out.trans hb)
      have HOx : Hid (OwnCr wd w1.heap.size vd (l ++ [(⟨kd, pl, nm, at_⟩ : Cr)])) := hide (OwnCr.snoc hown (by rw [HN.out]) rfl)
      have hHx : (fun W => Blk W w.heap.size 24 #[.int .i64 kd, .int .i64 pl, .int .i64 nm, .int .i64 at_]) wd := HX1.out.below HBx.out hl1
      clear hown hb
      refine ⟨HX1.out.below HBx.out hl1, ?_⟩
      try simp only [Act.put, List.setIfInBounds_toArray, List.set_cons_zero, List.set_cons_succ]
      refine held_run 5 (some 6) (.assign (.tmp 12)) ?v1_1_7 (by rfl) (by kernel_rfl) (by kernel_rfl) (by kernel_rfl) (fun _ _ _ h => h) (fun o ho w hS => ?y1_1_7) (by assumption) ?r1_1_7
      case y1_1_7 => (try dsimp only at hS); unfold execOp; simp only [ho]; go_simp; try with_reducible rfl
      try simp only [Act.put, List.setIfInBounds_toArray, List.set_cons_zero, List.set_cons_succ]
      refine wpAnyH_done (by kernel_rfl) ?_ _
      go_wp2_with fail
      go_meet
      exact ⟨HOx.out, HBx.out⟩
    · refine op_lit 3 (some 11) 22 24 1 #[(0, .tmp 10)] #[.int .i64 kd, .int .i64 pl, .int .i64 nm, .int .i64 at_] (by rfl) (by simp only [List.map_toArray, List.map_cons, List.map_nil]; exact run_lit1 (P := Try.prog) w1.drew 22 24 _ _ _ _ Try.underlying22 (by kernel_rfl)) ?_
      intro wf hx hb _
      have HBf := Lib.hid (HBd.out.trans (hb.mono HBd.out.size))
      have HLf := Lib.hid hx
      have hdj : Hid (w1.heap.size < wf.heap.size) := hide hx.lt
      clear hx hb
      refine ⟨HX1.out.below HBf.out hl1, ?_⟩
      try simp only [Act.put, List.setIfInBounds_toArray, List.set_cons_zero, List.set_cons_succ]
      refine held_call 1 (some 9) 29 [(.tmp 8)] #[22] #[.slice A n c] (by rfl) (by rfl) (by kernel_rfl) Try.func29 (by rfl) (by rfl) ?_
      have W5 := clone_any A n c l wf w1.heap.size (HS1.out.now HBf.out) HN.out hc1 hc2 (by omega) HBf.out.size
      refine W5.mono ?_
      rintro e wg ⟨vg, rfl, ho, hb⟩
      have HBg := Lib.hid (HBf.out.trans (hb.mono HBf.out.size))
      have HOg : Hid (wg.ownsRow w1.heap.size 24 4 vg n (l.map Cr.cells).flatten) := hide (by rw [← HN.out]; exact ho)
      have HLg := Lib.hid (HLf.out.below hb HLf.out.lt)
      clear ho hb W5
      have hHg : (fun W => Blk W w.heap.size 24 #[.int .i64 kd, .int .i64 pl, .int .i64 nm, .int .i64 at_]) wg := HX1.out.below HBg.out hl1
      refine ⟨_, rfl, hHg, ?_⟩
      try simp only [Act.put, List.setIfInBounds_toArray, List.set_cons_zero, List.set_cons_succ]
      refine held_one 4 (by kernel_rfl) ?_
      refine op_app ei_cr 4 (some 12) (.tmp 9) (.tmp 11) (by rfl) w1.heap.size _ n (l.map Cr.cells).flatten rfl (HOg.out) wg.heap.size (some ⟨w1.drew.heap.size, 0, none⟩) 1 1 (Cr.cells (⟨kd, pl, nm, at_⟩ : Cr)) rfl (reads_blk HLg.out rfl) (one_cr _) (by simp only [maxLen]; omega) (by omega) (HBg.out.size) ?_
      intro vh wh hown _ hb _
      have HBx := Lib.hid (HBg.out.trans hb)
      have HOx : Hid (OwnCr wh w1.heap.size vh (l ++ [(⟨kd, pl, nm, at_⟩ : Cr)])) := hide (OwnCr.snoc hown (by rw [HN.out]) rfl)
      have hHx : (fun W => Blk W w.heap.size 24 #[.int .i64 kd, .int .i64 pl, .int .i64 nm, .int .i64 at_]) wh := HX1.out.below HBx.out hl1
      clear hown hb
      refine ⟨HX1.out.below HBx.out hl1, ?_⟩
      try simp only [Act.put, List.setIfInBounds_toArray, List.set_cons_zero, List.set_cons_succ]
      refine held_run 5 (some 6) (.assign (.tmp 12)) ?v1_1_11 (by rfl) (by kernel_rfl) (by kernel_rfl) (by kernel_rfl) (fun _ _ _ h => h) (fun o ho w hS => ?y1_1_11) (by assumption) ?r1_1_11
      case y1_1_11 => (try dsimp only at hS); unfold execOp; simp only [ho]; go_simp; try with_reducible rfl
      try simp only [Act.put, List.setIfInBounds_toArray, List.set_cons_zero, List.set_cons_succ]
      refine wpAnyH_done (by kernel_rfl) ?_ _
      go_wp2_with fail
      go_meet
      exact ⟨HOx.out, HBx.out⟩
  obtain ⟨hown, hcut⟩ := hcut
  have HBc := Lib.hid (HB1.out.trans (hcut.mono HB1.out.size))
  have HV := Lib.hid hown.strV
  obtain ⟨A5, n5, c5, hs5, HN5, _, _, _⟩ := HV.out.nam
  clear hown hcut
  subst hs5
  go_wp2_with fail
  with_reducible refine (HRt.out _ _ HV.out).mono ?_
  rintro e w5 ⟨rfl, hb5⟩
  have HB5 := Lib.hid (HBc.out.trans (hb5.mono HBc.out.size))
  have HV5 := Lib.hid (HV.out.now hb5)
  clear hb5
  by_cases hq : q = 0
  · have HE := Lib.hid (HA0.out hq)
    subst hq
    go_wp2_with fail
    go_ret2
    exact ⟨_, rfl, by rw [HE.out]; exact HV5.out, HB5.out⟩
  · have HE := Lib.hid (HA1.out hq)
    have d : ((q : Int) != 0) = true := by rw [bne_iff_ne]; omega
    go_wp2_with fail
    go_ret2
    exact ⟨_, rfl, by rw [HE.out]; exact strV_nil _ _ _ _, HB5.out⟩
set_option maxRecDepth 100000 in
set_option maxHeartbeats 4000000 in
theorem rAdd_any (v : Value) (l : List Cr) (kd pl nm at_ : Int) (w : World) (hv : StrV Cr.cells 4 w w.heap.size v l) (hlen : l.length ≤ 100000) :
    Calls Try.prog 11 #[v, .agg #[.int .i64 kd, .int .i64 pl, .int .i64 nm, .int .i64 at_]] w fun e w' => ∃ v', e = .returned (.tuple #[v', .int .i64 ((rightC (l ++ [(⟨kd, pl, nm, at_⟩ : Cr)]) : Nat) : Int)]) ∧ StrV Cr.cells 4 w' w'.heap.size v' (addC l (⟨kd, pl, nm, at_⟩ : Cr)) ∧ Below w.heap.size w w' := by
  obtain ⟨A, n, c, rfl, HN, hc1, hc2, hr⟩ := hv.nam
  have HR := Lib.hid hr
  have hn : n ≤ 100000 := by rw [← HN.out]; exact hlen
  have HA0 : Hid (rightC (l ++ [(⟨kd, pl, nm, at_⟩ : Cr)]) = 0 → addC l (⟨kd, pl, nm, at_⟩ : Cr) = l ++ [(⟨kd, pl, nm, at_⟩ : Cr)]) := fun h => by unfold addC; rw [if_pos h]
  have HA1 : Hid (rightC (l ++ [(⟨kd, pl, nm, at_⟩ : Cr)]) ≠ 0 → addC l (⟨kd, pl, nm, at_⟩ : Cr) = []) := fun h => by unfold addC; rw [if_neg h]
  have HRt : Hid (∀ (v : Value) (W : World), StrV Cr.cells 4 W W.heap.size v (l ++ [(⟨kd, pl, nm, at_⟩ : Cr)]) → Calls Try.prog 13 #[v] W fun e w' => e = .returned (.int .i64 ((rightC (l ++ [(⟨kd, pl, nm, at_⟩ : Cr)]) : Nat) : Int)) ∧ Below W.heap.size W w') := fun v W h => rright_any v _ W h
  generalize rightC (l ++ [(⟨kd, pl, nm, at_⟩ : Cr)]) = q at *
  generalize addC l (⟨kd, pl, nm, at_⟩ : Cr) = al at *
  clear hv hr hlen
  go_enter Try.func11, Try.ntmps11
  go_wp2_with fail
  have HBw1 := (Blk.new w 24 #[.int .i64 kd, .int .i64 pl, .int .i64 nm, .int .i64 at_])
  have HLw1 := (below_new w (.cells #[.int .i64 kd, .int .i64 pl, .int .i64 nm, .int .i64 at_] 24))
  have hsw1 : (w.alloc (.cells #[.int .i64 kd, .int .i64 pl, .int .i64 nm, .int .i64 at_] 24)).heap.size = w.heap.size + 1 := by simp
  generalize w.alloc (.cells #[.int .i64 kd, .int .i64 pl, .int .i64 nm, .int .i64 at_] 24) = w1 at HBw1 HLw1 hsw1 ⊢
  replace HBw1 := Lib.hid HBw1
  replace HLw1 := Lib.hid HLw1
  have hlw1 : w.heap.size < w1.heap.size := by omega
  replace hsw1 := Lib.hid hsw1
  have HX1 := HBw1
  have hl1 := hlw1
  have HB1 := HLw1
  have HS1 : Hid (Strs Cr.cells 4 w1 w1.heap.size A n l) := hide (HR.out.now HB1.out)
  have HBd : Hid (Below w1.heap.size w1 w1.drew) := hide (Below.refl _ _).drew
  clear HBw1 HLw1 hsw1 hlw1
  go_cut [6] (fun s wx => OwnCr wx w1.heap.size s (l ++ [(⟨kd, pl, nm, at_⟩ : Cr)]) ∧ Below w1.heap.size w1 wx)
  case first =>
    refine wp_region_held_drew (S := fun W => Blk W w.heap.size 24 #[.int .i64 kd, .int .i64 pl, .int .i64 nm, .int .i64 at_]) (by kernel_rfl) (HX1.out.drew) (fun hHeld => ?_)
    refine held_run 1 (some 9) (.move (.tmp 0)) ?v1_12_13 (by rfl) (by kernel_rfl) (by kernel_rfl) (by kernel_rfl) (fun _ _ _ h => h) (fun o ho w hS => ?y1_12_13) (by assumption) ?r1_12_13
    case y1_12_13 => (try dsimp only at hS); unfold execOp; simp only [ho]; go_simp; try with_reducible rfl
    try simp only [Act.put, List.setIfInBounds_toArray, List.set_cons_zero, List.set_cons_succ]
    refine held_load 3 (some 11) 24 (.tmp 3) (by rfl) (by kernel_rfl) (by kernel_rfl) (by kernel_rfl) (w.heap.size) 24 #[.int .i64 kd, .int .i64 pl, .int .i64 nm, .int .i64 at_] (fun _ _ _ h => h) (by rfl) (fun _ h => h) _ Try.underlying24 rfl (by kernel_rfl) (by assumption) ?_
    try simp only [Act.put, List.setIfInBounds_toArray, List.set_cons_zero, List.set_cons_succ]
    refine held_two 0 4 (by kernel_rfl) ?_ ?_
    · refine op_lit 0 (some 8) 22 24 0 #[] #[] (by rfl) (by have h := run_lit0 (P := Try.prog) w1.drew 22 24 Try.underlying22 (by kernel_rfl); simpa using h) ?_
      intro wa _ hb he
      have HBa := Lib.hid (HBd.out.trans (hb.mono HBd.out.size))
      have HOa : Hid (wa.ownsRow w1.heap.size 24 4 (.slice (some ⟨w1.drew.heap.size, 0, none⟩) 0 0) 0 []) := by show World.ownsRow _ _ _ _ _ _ _; rw [he]; exact World.ownsRow_lit w1.drew #[] 0 HBd.out.size (by simp [maxLen]) rfl
      have hda : Hid (w1.heap.size < wa.heap.size) := by show _ < _; rw [he]; simp
      clear hb he
      refine ⟨HX1.out.below HBa.out hl1, ?_⟩
      try simp only [Act.put, List.setIfInBounds_toArray, List.set_cons_zero, List.set_cons_succ]
      refine held_two 2 4 (by kernel_rfl) ?_ ?_
      · refine op_app ei_cr 2 (some 10) (.tmp 8) (.tmp 9) (by rfl) w1.heap.size _ 0 [] rfl (HOa.out) wa.heap.size A n c (l.map Cr.cells).flatten rfl (HS1.out.now HBa.out) (one_crs l) (by simp only [maxLen]; omega) (by omega) (HBa.out.size) ?_
        intro vb wb hown hg hb _
        simp only [Nat.zero_add, List.nil_append] at hown
        have HBb := Lib.hid (HBa.out.trans hb)
        have HOb := Lib.hid hown
        clear hown hg hb
        refine ⟨HX1.out.below HBb.out hl1, ?_⟩
        try simp only [Act.put, List.setIfInBounds_toArray, List.set_cons_zero, List.set_cons_succ]
        refine held_one 4 (by kernel_rfl) ?_
        refine op_lit 4 (some 12) 22 24 1 #[(0, .tmp 11)] #[.int .i64 kd, .int .i64 pl, .int .i64 nm, .int .i64 at_] (by rfl) (by simp only [List.map_toArray, List.map_cons, List.map_nil]; exact run_lit1 (P := Try.prog) wb 22 24 _ _ _ _ Try.underlying22 (by kernel_rfl)) ?_
        intro wc hx hb _
        have HBc := Lib.hid (HBb.out.trans (hb.mono HBb.out.size))
        have HLc := Lib.hid hx
        have HOc := Lib.hid (own_below HOb.out hb (Nat.le_refl _))
        clear hx hb
        refine ⟨HX1.out.below HBc.out hl1, ?_⟩
        try simp only [Act.put, List.setIfInBounds_toArray, List.set_cons_zero, List.set_cons_succ]
        refine held_one 5 (by kernel_rfl) ?_
        refine op_app ei_cr 5 (some 13) (.tmp 10) (.tmp 12) (by rfl) w1.heap.size _ n (l.map Cr.cells).flatten rfl (HOc.out) wc.heap.size (some ⟨wb.heap.size, 0, none⟩) 1 1 (Cr.cells (⟨kd, pl, nm, at_⟩ : Cr)) rfl (reads_blk HLc.out rfl) (one_cr _) (by simp only [maxLen]; omega) (by omega) (HBc.out.size) ?_
        intro vd wd hown _ hb _
        have HBx := Lib.hid (HBc.out.trans hb)
        have HOx : Hid (OwnCr wd w1.heap.size vd (l ++ [(⟨kd, pl, nm, at_⟩ : Cr)])) := hide (OwnCr.snoc hown (by rw [HN.out]) rfl)
        have hHx : (fun W => Blk W w.heap.size 24 #[.int .i64 kd, .int .i64 pl, .int .i64 nm, .int .i64 at_]) wd := HX1.out.below HBx.out hl1
        clear hown hb
        refine ⟨HX1.out.below HBx.out hl1, ?_⟩
        try simp only [Act.put, List.setIfInBounds_toArray, List.set_cons_zero, List.set_cons_succ]
        refine held_run 6 (some 6) (.assign (.tmp 13)) ?v1_12_19 (by rfl) (by kernel_rfl) (by kernel_rfl) (by kernel_rfl) (fun _ _ _ h => h) (fun o ho w hS => ?y1_12_19) (by assumption) ?r1_12_19
        case y1_12_19 => (try dsimp only at hS); unfold execOp; simp only [ho]; go_simp; try with_reducible rfl
        try simp only [Act.put, List.setIfInBounds_toArray, List.set_cons_zero, List.set_cons_succ]
        refine wpAnyH_done (by kernel_rfl) ?_ _
        go_wp2_with fail
        go_meet
        exact ⟨HOx.out, HBx.out⟩
      · refine op_lit 4 (some 12) 22 24 1 #[(0, .tmp 11)] #[.int .i64 kd, .int .i64 pl, .int .i64 nm, .int .i64 at_] (by rfl) (by simp only [List.map_toArray, List.map_cons, List.map_nil]; exact run_lit1 (P := Try.prog) wa 22 24 _ _ _ _ Try.underlying22 (by kernel_rfl)) ?_
        intro wf hx hb _
        have HBf := Lib.hid (HBa.out.trans (hb.mono HBa.out.size))
        have HLf := Lib.hid hx
        have HOf := Lib.hid (own_below HOa.out hb (Nat.le_refl _))
        clear hx hb
        refine ⟨HX1.out.below HBf.out hl1, ?_⟩
        try simp only [Act.put, List.setIfInBounds_toArray, List.set_cons_zero, List.set_cons_succ]
        refine held_one 2 (by kernel_rfl) ?_
        refine op_app ei_cr 2 (some 10) (.tmp 8) (.tmp 9) (by rfl) w1.heap.size _ 0 [] rfl (HOf.out) wf.heap.size A n c (l.map Cr.cells).flatten rfl (HS1.out.now HBf.out) (one_crs l) (by simp only [maxLen]; omega) (by omega) (HBf.out.size) ?_
        intro vg wg hown hg hb _
        simp only [Nat.zero_add, List.nil_append] at hown
        have HBg := Lib.hid (HBf.out.trans hb)
        have HOg := Lib.hid hown
        have HLg : Hid (Blk wg wa.heap.size 24 #[.int .i64 kd, .int .i64 pl, .int .i64 nm, .int .i64 at_]) := hide ((hg.block _ HLf.out.lt (fun e => by have h0 : w1.heap.size < wa.heap.size := hda.out; have h2 : wa.heap.size = w1.heap.size := Option.some.inj e; omega)).trans HLf.out)
        clear hown hg hb
        refine ⟨HX1.out.below HBg.out hl1, ?_⟩
        try simp only [Act.put, List.setIfInBounds_toArray, List.set_cons_zero, List.set_cons_succ]
        refine held_one 5 (by kernel_rfl) ?_
        refine op_app ei_cr 5 (some 13) (.tmp 10) (.tmp 12) (by rfl) w1.heap.size _ n (l.map Cr.cells).flatten rfl (HOg.out) wg.heap.size (some ⟨wa.heap.size, 0, none⟩) 1 1 (Cr.cells (⟨kd, pl, nm, at_⟩ : Cr)) rfl (reads_blk HLg.out rfl) (one_cr _) (by simp only [maxLen]; omega) (by omega) (HBg.out.size) ?_
        intro vh wh hown _ hb _
        have HBx := Lib.hid (HBg.out.trans hb)
        have HOx : Hid (OwnCr wh w1.heap.size vh (l ++ [(⟨kd, pl, nm, at_⟩ : Cr)])) := hide (OwnCr.snoc hown (by rw [HN.out]) rfl)
        have hHx : (fun W => Blk W w.heap.size 24 #[.int .i64 kd, .int .i64 pl, .int .i64 nm, .int .i64 at_]) wh := HX1.out.below HBx.out hl1
        clear hown hb
        refine ⟨HX1.out.below HBx.out hl1, ?_⟩
        try simp only [Act.put, List.setIfInBounds_toArray, List.set_cons_zero, List.set_cons_succ]
        refine held_run 6 (some 6) (.assign (.tmp 13)) ?v1_12_23 (by rfl) (by kernel_rfl) (by kernel_rfl) (by kernel_rfl) (fun _ _ _ h => h) (fun o ho w hS => ?y1_12_23) (by assumption) ?r1_12_23
        case y1_12_23 => (try dsimp only at hS); unfold execOp; simp only [ho]; go_simp; try with_reducible rfl
        try simp only [Act.put, List.setIfInBounds_toArray, List.set_cons_zero, List.set_cons_succ]
        refine wpAnyH_done (by kernel_rfl) ?_ _
        go_wp2_with fail
        go_meet
        exact ⟨HOx.out, HBx.out⟩
    · refine op_lit 4 (some 12) 22 24 1 #[(0, .tmp 11)] #[.int .i64 kd, .int .i64 pl, .int .i64 nm, .int .i64 at_] (by rfl) (by simp only [List.map_toArray, List.map_cons, List.map_nil]; exact run_lit1 (P := Try.prog) w1.drew 22 24 _ _ _ _ Try.underlying22 (by kernel_rfl)) ?_
      intro wj hx hb _
      have HBj := Lib.hid (HBd.out.trans (hb.mono HBd.out.size))
      have HLj := Lib.hid hx
      have hdj : Hid (w1.heap.size < wj.heap.size) := hide hx.lt
      clear hx hb
      refine ⟨HX1.out.below HBj.out hl1, ?_⟩
      try simp only [Act.put, List.setIfInBounds_toArray, List.set_cons_zero, List.set_cons_succ]
      refine held_one 0 (by kernel_rfl) ?_
      refine op_lit 0 (some 8) 22 24 0 #[] #[] (by rfl) (by have h := run_lit0 (P := Try.prog) wj 22 24 Try.underlying22 (by kernel_rfl); simpa using h) ?_
      intro wk _ hb he
      have HBk := Lib.hid (HBj.out.trans (hb.mono HBj.out.size))
      have HOk : Hid (wk.ownsRow w1.heap.size 24 4 (.slice (some ⟨wj.heap.size, 0, none⟩) 0 0) 0 []) := by show World.ownsRow _ _ _ _ _ _ _; rw [he]; exact World.ownsRow_lit wj #[] 0 HBj.out.size (by simp [maxLen]) rfl
      have HLk := Lib.hid (HLj.out.below hb HLj.out.lt)
      clear hb he
      refine ⟨HX1.out.below HBk.out hl1, ?_⟩
      try simp only [Act.put, List.setIfInBounds_toArray, List.set_cons_zero, List.set_cons_succ]
      refine held_one 2 (by kernel_rfl) ?_
      refine op_app ei_cr 2 (some 10) (.tmp 8) (.tmp 9) (by rfl) w1.heap.size _ 0 [] rfl (HOk.out) wk.heap.size A n c (l.map Cr.cells).flatten rfl (HS1.out.now HBk.out) (one_crs l) (by simp only [maxLen]; omega) (by omega) (HBk.out.size) ?_
      intro vm wm hown hg hb _
      simp only [Nat.zero_add, List.nil_append] at hown
      have HBm := Lib.hid (HBk.out.trans hb)
      have HOm := Lib.hid hown
      have HLm : Hid (Blk wm w1.drew.heap.size 24 #[.int .i64 kd, .int .i64 pl, .int .i64 nm, .int .i64 at_]) := hide ((hg.block _ HLk.out.lt (fun e => by have h0 : w1.heap.size < wj.heap.size := hdj.out; have h2 : w1.heap.size = wj.heap.size := Option.some.inj e; omega)).trans HLk.out)
      clear hown hg hb
      refine ⟨HX1.out.below HBm.out hl1, ?_⟩
      try simp only [Act.put, List.setIfInBounds_toArray, List.set_cons_zero, List.set_cons_succ]
      refine held_one 5 (by kernel_rfl) ?_
      refine op_app ei_cr 5 (some 13) (.tmp 10) (.tmp 12) (by rfl) w1.heap.size _ n (l.map Cr.cells).flatten rfl (HOm.out) wm.heap.size (some ⟨w1.drew.heap.size, 0, none⟩) 1 1 (Cr.cells (⟨kd, pl, nm, at_⟩ : Cr)) rfl (reads_blk HLm.out rfl) (one_cr _) (by simp only [maxLen]; omega) (by omega) (HBm.out.size) ?_
      intro vo wo hown _ hb _
      have HBx := Lib.hid (HBm.out.trans hb)
      have HOx : Hid (OwnCr wo w1.heap.size vo (l ++ [(⟨kd, pl, nm, at_⟩ : Cr)])) := hide (OwnCr.snoc hown (by rw [HN.out]) rfl)
      have hHx : (fun W => Blk W w.heap.size 24 #[.int .i64 kd, .int .i64 pl, .int .i64 nm, .int .i64 at_]) wo := HX1.out.below HBx.out hl1
      clear hown hb
      refine ⟨HX1.out.below HBx.out hl1, ?_⟩
      try simp only [Act.put, List.setIfInBounds_toArray, List.set_cons_zero, List.set_cons_succ]
      refine held_run 6 (some 6) (.assign (.tmp 13)) ?v1_12_28 (by rfl) (by kernel_rfl) (by kernel_rfl) (by kernel_rfl) (fun _ _ _ h => h) (fun o ho w hS => ?y1_12_28) (by assumption) ?r1_12_28
      case y1_12_28 => (try dsimp only at hS); unfold execOp; simp only [ho]; go_simp; try with_reducible rfl
      try simp only [Act.put, List.setIfInBounds_toArray, List.set_cons_zero, List.set_cons_succ]
      refine wpAnyH_done (by kernel_rfl) ?_ _
      go_wp2_with fail
      go_meet
      exact ⟨HOx.out, HBx.out⟩
  obtain ⟨hown, hcut⟩ := hcut
  have HBc := Lib.hid (HB1.out.trans (hcut.mono HB1.out.size))
  have HV := Lib.hid hown.strV
  obtain ⟨A5, n5, c5, hs5, HN5, _, _, _⟩ := HV.out.nam
  clear hown hcut
  subst hs5
  go_wp2_with fail
  with_reducible refine (HRt.out _ _ HV.out).mono ?_
  rintro e w5 ⟨rfl, hb5⟩
  have HB5 := Lib.hid (HBc.out.trans (hb5.mono HBc.out.size))
  have HV5 := Lib.hid (HV.out.now hb5)
  clear hb5
  by_cases hq : q = 0
  · have HE := Lib.hid (HA0.out hq)
    subst hq
    go_wp2_with fail
    go_ret2
    exact ⟨_, rfl, by rw [HE.out]; exact HV5.out, HB5.out⟩
  · have HE := Lib.hid (HA1.out hq)
    have d : ((q : Int) != 0) = true := by rw [bne_iff_ne]; omega
    go_wp2_with fail
    go_ret2
    exact ⟨_, rfl, by rw [HE.out]; exact strV_nil _ _ _ _, HB5.out⟩
set_option maxRecDepth 100000 in
theorem rsame_any (v v' : Value) (l : List Cr) (w : World) (hv : StrV Cr.cells 4 w w.heap.size v l) (hv' : StrV Cr.cells 4 w w.heap.size v' l) :
    Calls Try.prog 14 #[v, v'] w fun e w' => e = .returned (.bool true) ∧ Below w.heap.size w w' := by
  obtain ⟨A, n, c, rfl, HL, h3, h4, hr⟩ := hv.nam
  obtain ⟨A', n', c', rfl, HL', _, _, hr'⟩ := hv'.nam
  obtain rfl : n = n' := by rw [← HL.out, HL'.out]
  have HR := Lib.hid hr
  have HR' := Lib.hid hr'
  simp only [maxLen] at h4
  have hm : n ≤ 9223372036854775807 := by omega
  have e1 : ((n : Int) != (n : Int)) = false := by simp
  clear hv hv' hr hr' h3 h4 HL'
  go_enter Try.func14, Try.ntmps14
  go_wp2_with fail
  go_loopw [5] (fun i wr => ∃ k : Nat, k ≤ n ∧ i = .int .i64 k ∧ Below w.heap.size w wr) (fun i _ => n - (intOf i).toNat)
  case atStart => exact ⟨0, by omega, rfl, Below.refl _ _⟩
  case round =>
    obtain ⟨k, hk, rfl, hbr⟩ := hrel
    have HQ := Lib.hid hbr
    obtain ⟨wo, rfl⟩ : ∃ wo : World, wo = wr := ⟨_, rfl⟩
    have HRo := Lib.hid (HR.out.now hbr)
    have HR'o := Lib.hid (HR'.out.now hbr)
    clear hbr
    by_cases hlt : k < n
    · obtain ⟨ad, rfl, hab, hcs⟩ := strs_at HRo.out (fun _ => rfl) HL.out hlt cr0
      obtain ⟨ad', rfl, hab', hcs'⟩ := strs_at HR'o.out (fun _ => rfl) HL.out hlt cr0
      generalize l.getD k cr0 = q at *
      obtain ⟨kd, pl, nm, at_⟩ := q
      have hd0 : ∀ j u, ([.int .i64 kd, .int .i64 pl, .int .i64 nm, .int .i64 at_] : List Value)[j]? = some u → wo.cell? ((ad.add (k * 4)).add j) = some u := hcs
      have hd1 : ∀ j u, ([.int .i64 kd, .int .i64 pl, .int .i64 nm, .int .i64 at_] : List Value)[j]? = some u → wo.cell? ((ad'.add (k * 4)).add j) = some u := hcs'
      clear hcs hcs'
      go_wp2_with fail
      refine wp_region_held_drew (S := fun W => (∀ j u, ([.int .i64 kd, .int .i64 pl, .int .i64 nm, .int .i64 at_] : List Value)[j]? = some u → W.cell? ((ad.add (k * 4)).add j) = some u) ∧ (∀ j u, ([.int .i64 kd, .int .i64 pl, .int .i64 nm, .int .i64 at_] : List Value)[j]? = some u → W.cell? ((ad'.add (k * 4)).add j) = some u)) (by kernel_rfl) (⟨hd0, hd1⟩) (fun hHeld => ?_)
      refine held_run 0 (some 17) (.move (.tmp 0)) ?v6_29_30 (by rfl) (by kernel_rfl) (by kernel_rfl) (by kernel_rfl) (fun _ _ _ h => h) (fun o ho w hS => ?y6_29_30) (by assumption) ?r6_29_30
      case y6_29_30 => (try dsimp only at hS); unfold execOp; simp only [ho]; go_simp; try with_reducible rfl
      try simp only [Act.put, List.setIfInBounds_toArray, List.set_cons_zero, List.set_cons_succ]
      refine held_run 1 (some 18) (.move (.tmp 5)) ?v6_29_31 (by rfl) (by kernel_rfl) (by kernel_rfl) (by kernel_rfl) (fun _ _ _ h => h) (fun o ho w hS => ?y6_29_31) (by assumption) ?r6_29_31
      case y6_29_31 => (try dsimp only at hS); unfold execOp; simp only [ho]; go_simp; try with_reducible rfl
      try simp only [Act.put, List.setIfInBounds_toArray, List.set_cons_zero, List.set_cons_succ]
      refine held_run 2 (some 19) (.indexAddr 22 (.tmp 17) (.tmp 18)) ?v6_29_32 (by rfl) (by kernel_rfl) (by kernel_rfl) (by kernel_rfl) (fun _ _ _ h => h) (fun o ho w hS => ?y6_29_32) (by assumption) ?r6_29_32
      case y6_29_32 => (try dsimp only at hS); unfold execOp; simp only [ho]; go_simp; try with_reducible rfl
      try simp only [Act.put, List.setIfInBounds_toArray, List.set_cons_zero, List.set_cons_succ]
      refine held_load_at 3 (some 20) 24 (.tmp 19) (by rfl) (by kernel_rfl) (by kernel_rfl) (by kernel_rfl) ((ad.add (k * 4))) ([.int .i64 kd, .int .i64 pl, .int .i64 nm, .int .i64 at_] : List Value) (fun _ _ _ h => h) (by rfl) (fun _ h => h.1) _ Try.underlying24 rfl (by kernel_rfl) (by assumption) ?_
      try simp only [Act.put, List.setIfInBounds_toArray, List.set_cons_zero, List.set_cons_succ]
      refine held_run 4 (some 21) (.move (.tmp 1)) ?v6_29_34 (by rfl) (by kernel_rfl) (by kernel_rfl) (by kernel_rfl) (fun _ _ _ h => h) (fun o ho w hS => ?y6_29_34) (by assumption) ?r6_29_34
      case y6_29_34 => (try dsimp only at hS); unfold execOp; simp only [ho]; go_simp; try with_reducible rfl
      try simp only [Act.put, List.setIfInBounds_toArray, List.set_cons_zero, List.set_cons_succ]
      refine held_run 5 (some 22) (.move (.tmp 5)) ?v6_29_35 (by rfl) (by kernel_rfl) (by kernel_rfl) (by kernel_rfl) (fun _ _ _ h => h) (fun o ho w hS => ?y6_29_35) (by assumption) ?r6_29_35
      case y6_29_35 => (try dsimp only at hS); unfold execOp; simp only [ho]; go_simp; try with_reducible rfl
      try simp only [Act.put, List.setIfInBounds_toArray, List.set_cons_zero, List.set_cons_succ]
      refine held_run 6 (some 23) (.indexAddr 22 (.tmp 21) (.tmp 22)) ?v6_29_36 (by rfl) (by kernel_rfl) (by kernel_rfl) (by kernel_rfl) (fun _ _ _ h => h) (fun o ho w hS => ?y6_29_36) (by assumption) ?r6_29_36
      case y6_29_36 => (try dsimp only at hS); unfold execOp; simp only [ho]; go_simp; try with_reducible rfl
      try simp only [Act.put, List.setIfInBounds_toArray, List.set_cons_zero, List.set_cons_succ]
      refine held_load_at 7 (some 24) 24 (.tmp 23) (by rfl) (by kernel_rfl) (by kernel_rfl) (by kernel_rfl) ((ad'.add (k * 4))) ([.int .i64 kd, .int .i64 pl, .int .i64 nm, .int .i64 at_] : List Value) (fun _ _ _ h => h) (by rfl) (fun _ h => h.2) _ Try.underlying24 rfl (by kernel_rfl) (by assumption) ?_
      try simp only [Act.put, List.setIfInBounds_toArray, List.set_cons_zero, List.set_cons_succ]
      refine held_run 8 (some 25) (.binOp .neq 24 (.tmp 20) (.tmp 24) 24) ?v6_29_38 (by rfl) (by kernel_rfl) (by kernel_rfl) (by kernel_rfl) (fun _ _ _ h => h) (fun o ho w hS => ?y6_29_38) (by assumption) ?r6_29_38
      case y6_29_38 => (try dsimp only at hS); unfold execOp; simp only [ho]; go_simp; try with_reducible rfl
      try simp only [Act.put, List.setIfInBounds_toArray, List.set_cons_zero, List.set_cons_succ]
      refine wpAnyH_done (by kernel_rfl) ?_ _
      clear hd0 hd1
      go_wp2_with fail
      go_roundw
      case rel => exact ⟨k + 1, by omega, by go_num, HQ.out.drew⟩
      case measure => simp [intOf]; omega
    · obtain rfl : k = n := by omega
      go_wp2_with fail
      go_ret
      exact ⟨rfl, HQ.out⟩
end Go.Proofs.Ytihmboibpjfohaa
