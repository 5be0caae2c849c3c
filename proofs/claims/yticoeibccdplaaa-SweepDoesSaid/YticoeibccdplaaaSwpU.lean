/-
  Do of chapter 56, walked.
-/
import Derived.Test.YticoeibccdplaaaSwpT
namespace Go.Proofs.Yticoeibccdplaaa
open Go.RowKit

theorem own_blk_ne {w : World} {base : Nat} {e : TypeId} {size n : Nat} {v : Value} {xs : List Value} {g : Nat} {t : TypeId} {cs : Array Value} (ho : w.ownsRow base e size v n xs) (hb : Blk w g t cs) (hne : e ≠ t) : some g ≠ v.ownBlock := by
  intro h
  rcases ho.2 with ⟨rfl, _⟩ | ⟨g', cap, cur, rfl, _, hg, _⟩
  · simp [Value.ownBlock] at h
  · simp only [Value.ownBlock, Option.some.injEq] at h
    subst h
    unfold Blk at hb
    rw [hg] at hb
    injection hb with hb
    injection hb with _ ht
    exact hne ht
theorem strs_one (l : List Sw) : ∀ u ∈ (l.map Sw.cells).flatten, u.oneCell' = true := by
  intro u hu
  obtain ⟨r, hr, hu⟩ := List.mem_flatten.1 hu
  obtain ⟨x, _, rfl⟩ := List.mem_map.1 hr
  simp only [Sw.cells, List.mem_cons, List.not_mem_nil, or_false] at hu
  rcases hu with rfl | rfl | rfl | rfl <;> rfl
/-- a row of swept runs of the call's own -/
abbrev OwnS (w : World) (base : Nat) (v : Value) (n : Nat) (l : List Sw) : Prop := w.ownsRow base 39 4 v n (l.map Sw.cells).flatten
theorem OwnS.strV {w : World} {base : Nat} {v : Value} {n : Nat} {l : List Sw} (h : OwnS w base v n l) (hn : l.length = n) : StrV Sw.cells 4 w w.heap.size v l := by
  obtain ⟨A, c, rfl, h1, h2, h3⟩ := own_open h
  exact strV_of h3 hn h1 h2

set_option maxHeartbeats 400000 in
theorem clone_s (A : Option Addr) (n c B : Nat) (l : List Sw) (w : World) (hr : Strs Sw.cells 4 w B A n l) (hl : l.length = n) (hn : n ≤ 100000000) (hB : B ≤ w.heap.size) :
    Calls Try.prog 52 #[.slice A n c] w fun e w' => ∃ v, e = .returned v ∧ OwnS w' w.heap.size v n l ∧ Below w.heap.size w w' := by
  have HR := Lib.hid hr
  have HL := Lib.hid hl
  clear hr hl
  have q : ∀ (w : World) (a : Option Addr) (n c n' c' : Nat), (binOp .eql 28 (.slice a n c) (.slice none n' c')).run Try.prog w = .ok (.bool a.isNone) w := fun w a n c n' c' => Lib.run_eql_slice_nil w _ _ a n c n' c' Try.underlying28
  cases A with
  | none =>
    have hn0 : n = 0 := by
      rcases Nat.eq_zero_or_pos n with h | h
      · exact h
      · obtain ⟨ad, h1, _⟩ := HR.out.2 h
        cases h1
    subst hn0
    go_enter Try.func52, Try.ntmps52
    go_wp2
    go_ret
    refine ⟨_, rfl, ?_, Below.refl _ _⟩
    rw [List.eq_nil_of_length_eq_zero HL.out]
    exact World.ownsRow_nil _ _ _ _
  | some ad =>
    go_enter Try.func52, Try.ntmps52
    go_wp2_with
      (at_builtin
       refine wpList_app _ ei_sw rfl (.tmp 5) (.tmp 6) rfl w.heap.size (.slice (some ⟨w.heap.size, 0, none⟩) 0 0) 0 [] rfl (World.ownsRow_lit w #[] 0 (Nat.le_refl _) (by simp [maxLen]) rfl) B (some ad) n c (l.map Sw.cells).flatten rfl (HR.out.alloc hB _) (strs_one l) (by simp only [maxLen]; omega) (by omega) (by simp) ?_
       intro v2 w2 hown2 _ hbw2 _
       have hbw : Below w.heap.size w w2 := ((Below.refl _ _).alloc (Nat.le_refl _) _).trans hbw2
       simp only [Nat.zero_add, List.nil_append] at hown2
       have HO := Lib.hid hown2
       clear hown2 hbw2)
    go_ret
    exact ⟨_, rfl, HO.out, hbw⟩

/-- what Do returns: the error, and without one the sweep -/
def DoR (has : Int → Bool) (bef : Int → Int → Bool) (out : Int → Bool) (runs : List Int) (bg : Int) (sw : List Sw) (opn : List Int) (q : Sw) (w : World) (e : Ending) (w' : World) : Prop :=
  Below w.heap.size w w' ∧ ((opn.contains q.run = true ∧ e = .returned (.tuple #[.agg #[.slice none 0 0, .slice none 0 0, .int .i64 0], .int .i64 13])) ∨
    (opn.contains q.run = false ∧ rightG has bef out runs bg (sw ++ [q]) ≠ 0 ∧ e = .returned (.tuple #[.agg #[.slice none 0 0, .slice none 0 0, .int .i64 0], .int .i64 (rightG has bef out runs bg (sw ++ [q]))])) ∨
    (opn.contains q.run = false ∧ rightG has bef out runs bg (sw ++ [q]) = 0 ∧ ∃ v1 v2, e = .returned (.tuple #[.agg #[v1, v2, .int .i64 bg], .int .i64 0]) ∧ RowV w' w'.heap.size v1 runs ∧ StrV Sw.cells 4 w' w'.heap.size v2 (sw ++ [q])))
set_option maxRecDepth 100000 in
set_option maxHeartbeats 8000000 in
theorem do_any (vn vl vr vb v1 v2 vo : Value) (bg : Int) (rs : List Rn) (bs runs opn : List Int) (sw : List Sw) (q : Sw) (w : World) (hm : StrV Rn.cells 7 w w.heap.size vr rs) (hb : RowV w w.heap.size vb bs) (hr1 : RowV w w.heap.size v1 runs) (hr2 : StrV Sw.cells 4 w w.heap.size v2 sw) (ho : RowV w w.heap.size vo opn) (hlen : runs.length ≤ 1000) (hlen2 : sw.length ≤ 1000) :
    Calls Try.prog 21 #[.agg #[vn, vl, vr, vb], .agg #[v1, v2, .int .i64 bg], vo, .agg #[.int .i64 q.run, .int .i64 q.byy, .int .i64 q.att, .int .i64 q.fnd]] w (DoR (hasR rs) (befP rs) (outP rs bs) runs bg sw opn q w) := by
  obtain ⟨A1, n1, c1, rfl, HL1, h11, h12, hr1'⟩ := hr1.nam
  obtain ⟨A, n, c, rfl, HL, h3, h4, hr⟩ := hr2.nam
  obtain ⟨Ao, no, co, rfl, HLo, ho1, ho2, hor⟩ := ho.nam
  have HR1 := Lib.hid hr1'
  have HR := Lib.hid hr
  have HM := Lib.hid hm
  have HBv := Lib.hid hb
  have HOp := Lib.hid hor
  have hno : no ≤ maxLen := Nat.le_trans ho1 ho2
  have hn1 : n1 ≤ 1000 := by rw [← HL1.out]; exact hlen
  have hn : n ≤ 1000 := by rw [← HL.out]; exact hlen2
  have HCr : Hid (∀ (x y : Value) (W : World), StrV Rn.cells 7 W W.heap.size vr rs → RowV W W.heap.size vb bs → RowV W W.heap.size x runs → StrV Sw.cells 4 W W.heap.size y (sw ++ [q]) → Calls Try.prog 13 #[.agg #[vn, vl, vr, vb], .agg #[x, y, .int .i64 bg]] W fun e w' => e = .returned (.int .i64 (rightG (hasR rs) (befP rs) (outP rs bs) runs bg (sw ++ [q]))) ∧ Below W.heap.size W w') := fun x y W a1 a2 a3 a4 => right_any vn vl vr vb x y bg rs bs runs (sw ++ [q]) W a1 a2 a3 a4
  clear hm hb hr1 hr1' hr2 hr ho hor h3 h4 h11 h12 ho1 ho2 hlen hlen2
  have HFl : Hid ((sw ++ [q]).map Sw.cells = sw.map Sw.cells ++ [[.int .i64 q.run, .int .i64 q.byy, .int .i64 q.att, .int .i64 q.fnd]]) := by show _ = _; rw [List.map_append]; rfl
  have HLq : Hid ((sw ++ [q]).length = n + 1) := by show _ = _; rw [List.length_append, HL.out]; rfl
  obtain ⟨r, hr⟩ : ∃ r, rightG (hasR rs) (befP rs) (outP rs bs) runs bg (sw ++ [q]) = r := ⟨_, rfl⟩
  have HRr := Lib.hid hr
  rw [hr] at HCr
  clear hr
  have HD1 : Hid (∀ w', opn.contains q.run = true → Below w.heap.size w w' → DoR (hasR rs) (befP rs) (outP rs bs) runs bg sw opn q w (.returned (.tuple #[.agg #[.slice none 0 0, .slice none 0 0, .int .i64 0], .int .i64 13])) w') := fun w' h hb => ⟨hb, .inl ⟨h, rfl⟩⟩
  have HD2 : Hid (∀ w', opn.contains q.run = false → r ≠ 0 → Below w.heap.size w w' → DoR (hasR rs) (befP rs) (outP rs bs) runs bg sw opn q w (.returned (.tuple #[.agg #[.slice none 0 0, .slice none 0 0, .int .i64 0], .int .i64 r])) w') := fun w' h h0 hb => ⟨hb, .inr (.inl ⟨h, by rw [HRr.out]; exact h0, by rw [HRr.out]⟩)⟩
  have HD3 : Hid (∀ w' x y, opn.contains q.run = false → r = 0 → Below w.heap.size w w' → RowV w' w'.heap.size x runs → StrV Sw.cells 4 w' w'.heap.size y (sw ++ [q]) → DoR (hasR rs) (befP rs) (outP rs bs) runs bg sw opn q w (.returned (.tuple #[.agg #[x, y, .int .i64 bg], .int .i64 0])) w') := fun w' x y h h0 hb h1 h2 => ⟨hb, .inr (.inr ⟨h, by rw [HRr.out]; exact h0, x, y, rfl, h1, h2⟩)⟩
  clear HRr
  generalize DoR (hasR rs) (befP rs) (outP rs bs) runs bg sw opn q w = POST at *
  generalize hsw : sw ++ [q] = swq at *
  clear hsw
  obtain ⟨run, byy, att, fnd⟩ := q
  simp only at HFl HD1 HD2 HD3 ⊢
  obtain ⟨cb, hcb⟩ : ∃ b, opn.contains run = b := ⟨_, rfl⟩
  have HCb := Lib.hid hcb
  rw [hcb] at HD1 HD2 HD3
  clear hcb
  go_enter Try.func21, Try.ntmps21
  go_wp2_with fail
  have HBwz0 := (Blk.new w 27 #[vn, vl, vr, vb])
  have HLwz0 := (below_new w (.cells #[vn, vl, vr, vb] 27))
  have hswz0 : (w.alloc (.cells #[vn, vl, vr, vb] 27)).heap.size = w.heap.size + 1 := by simp
  generalize w.alloc (.cells #[vn, vl, vr, vb] 27) = wz0 at HBwz0 HLwz0 hswz0 ⊢
  replace HBwz0 := Lib.hid HBwz0
  replace HLwz0 := Lib.hid HLwz0
  have hlwz0 : w.heap.size < wz0.heap.size := by omega
  replace hswz0 := Lib.hid hswz0
  have HBwz1 := (Blk.new wz0 30 #[.slice A1 n1 c1, .slice A n c, .int .i64 bg])
  have HLwz1 := (below_new wz0 (.cells #[.slice A1 n1 c1, .slice A n c, .int .i64 bg] 30))
  have hswz1 : (wz0.alloc (.cells #[.slice A1 n1 c1, .slice A n c, .int .i64 bg] 30)).heap.size = wz0.heap.size + 1 := by simp
  generalize wz0.alloc (.cells #[.slice A1 n1 c1, .slice A n c, .int .i64 bg] 30) = wz1 at HBwz1 HLwz1 hswz1 ⊢
  replace HBwz1 := Lib.hid HBwz1
  replace HLwz1 := Lib.hid HLwz1
  have hlwz1 : wz0.heap.size < wz1.heap.size := by omega
  replace hswz1 := Lib.hid hswz1
  have HBwz2 := (Blk.new wz1 39 #[.int .i64 run, .int .i64 byy, .int .i64 att, .int .i64 fnd])
  have HLwz2 := (below_new wz1 (.cells #[.int .i64 run, .int .i64 byy, .int .i64 att, .int .i64 fnd] 39))
  have hswz2 : (wz1.alloc (.cells #[.int .i64 run, .int .i64 byy, .int .i64 att, .int .i64 fnd] 39)).heap.size = wz1.heap.size + 1 := by simp
  generalize wz1.alloc (.cells #[.int .i64 run, .int .i64 byy, .int .i64 att, .int .i64 fnd] 39) = wz2 at HBwz2 HLwz2 hswz2 ⊢
  replace HBwz2 := Lib.hid HBwz2
  replace HLwz2 := Lib.hid HLwz2
  have hlwz2 : wz1.heap.size < wz2.heap.size := by omega
  replace hswz2 := Lib.hid hswz2
  have HBwb := (Blk.new wz2 30 #[.slice none 0 0, .slice none 0 0, .int .i64 0])
  have HLwb := (below_new wz2 (.cells #[.slice none 0 0, .slice none 0 0, .int .i64 0] 30))
  have hswb : (wz2.alloc (.cells #[.slice none 0 0, .slice none 0 0, .int .i64 0] 30)).heap.size = wz2.heap.size + 1 := by simp
  generalize wz2.alloc (.cells #[.slice none 0 0, .slice none 0 0, .int .i64 0] 30) = wb at HBwb HLwb hswb ⊢
  replace HBwb := Lib.hid HBwb
  replace HLwb := Lib.hid HLwb
  have hlwb : wz2.heap.size < wb.heap.size := by omega
  replace hswb := Lib.hid hswb
  have HQ1 := Lib.hid (HLwz0.out.trans (HLwz1.out.mono HLwz0.out.size))
  have HQ2 := Lib.hid (HQ1.out.trans (HLwz2.out.mono HQ1.out.size))
  have HQ3 := Lib.hid (HQ2.out.trans (HLwb.out.mono HQ2.out.size))
  have HWb := Lib.hid (HQ3.out)
  have hl0 : w.heap.size ≤ wb.heap.size := HWb.out.size
  have HBb : Hid (Below wb.heap.size wb wb) := hide (Below.refl _ _)
  have hszb : wb.heap.size ≤ wb.heap.size := Nat.le_refl _
  have HZ0_1 := Lib.hid (HBwz0.out.below HLwz1.out hlwz0)
  have hz0_1 : w.heap.size < wz1.heap.size := HZ0_1.out.lt
  have HZ0_2 := Lib.hid (HZ0_1.out.below HLwz2.out hz0_1)
  have hz0_2 : w.heap.size < wz2.heap.size := HZ0_2.out.lt
  have HZ0_3 := Lib.hid (HZ0_2.out.below HLwb.out hz0_2)
  have hz0_3 : w.heap.size < wb.heap.size := HZ0_3.out.lt
  have HX0b : Hid (Blk wb w.heap.size 27 #[vn, vl, vr, vb]) := hide HZ0_3.out
  have hxx0 : w.heap.size < wb.heap.size := HX0b.out.lt
  have HZ1_2 := Lib.hid (HBwz1.out.below HLwz2.out hlwz1)
  have hz1_2 : wz0.heap.size < wz2.heap.size := HZ1_2.out.lt
  have HZ1_3 := Lib.hid (HZ1_2.out.below HLwb.out hz1_2)
  have hz1_3 : wz0.heap.size < wb.heap.size := HZ1_3.out.lt
  have HX1b : Hid (Blk wb (w.heap.size + 1) 30 #[.slice A1 n1 c1, .slice A n c, .int .i64 bg]) := hide (by have h := HZ1_3.out; rw [show wz0.heap.size = w.heap.size + 1 from by have := hswz0.out; omega] at h; exact h)
  have hxx1 : (w.heap.size + 1) < wb.heap.size := HX1b.out.lt
  have HZ2_3 := Lib.hid (HBwz2.out.below HLwb.out hlwz2)
  have hz2_3 : wz1.heap.size < wb.heap.size := HZ2_3.out.lt
  have HX2b : Hid (Blk wb (w.heap.size + 1 + 1) 39 #[.int .i64 run, .int .i64 byy, .int .i64 att, .int .i64 fnd]) := hide (by have h := HZ2_3.out; rw [show wz1.heap.size = w.heap.size + 1 + 1 from by have := hswz0.out; have := hswz1.out; omega] at h; exact h)
  have hxx2 : (w.heap.size + 1 + 1) < wb.heap.size := HX2b.out.lt
  have HX3b : Hid (Blk wb (w.heap.size + 1 + 1 + 1) 30 #[.slice none 0 0, .slice none 0 0, .int .i64 0]) := hide (by have h := HBwb.out; rw [show wz2.heap.size = w.heap.size + 1 + 1 + 1 from by have := hswz0.out; have := hswz1.out; have := hswz2.out; omega] at h; exact h)
  have hxx3 : (w.heap.size + 1 + 1 + 1) < wb.heap.size := HX3b.out.lt
  clear HBwz0 HLwz0 hswz0 hlwz0
  clear HBwz1 HLwz1 hswz1 hlwz1
  clear HBwz2 HLwz2 hswz2 hlwz2
  clear HBwb HLwb hswb hlwb
  have HMb := Lib.hid (HM.out.now HWb.out)
  have HR1b := Lib.hid (HR1.out.now HWb.out)
  have HRb := Lib.hid (HR.out.now HWb.out)
  have HBvb := Lib.hid (HBv.out.now HWb.out)
  have HOpb := Lib.hid (HOp.out.now HWb.out)
  have e0 : wb.cell? ⟨w.heap.size + 1 + 1, 0, none⟩ = some (.int .i64 run) := HX2b.out.cell 0
  with_reducible refine (contains_any _ no co _ opn run cb _ HOpb.out hno HCb.out).mono ?_
  rintro e w' ⟨rfl, rfl⟩
  cases cb with
  | true =>
    go_wp2_with
      (first
       | (refine wpList_store_blk rfl 30 (.tmp 8) (.tmp 16) rfl (w.heap.size + 1 + 1 + 1) #[.slice none 0 0, .slice none 0 0, .int .i64 0] rfl rfl _ _ HX3b.out (by kernel_rfl) rfl (by simp [Value.oneCell']) ?_
          intro w2 hx2 hon2
          have HX2 := Lib.hid hx2
          have HW2 := Lib.hid (hon2.below HWb.out (by omega))
          clear hx2 hon2))
    refine bodyPost_ret (results_cell_row_tmp rfl _ _ (w.heap.size + 1 + 1 + 1) 30 _ _ _ rfl rfl HX2.out Try.underlying30 rfl (by kernel_rfl)) rfl ?_
    exact HD1.out _ (by first | rfl | trivial) HW2.out
  | false =>
    go_wp2_with fail
    clear e0
    have HS : Hid (∀ W, Below wb.heap.size wb W → (fun W => Below wb.heap.size wb W ∧ Blk W (w.heap.size + 1) 30 #[.slice A1 n1 c1, .slice A n c, .int .i64 bg] ∧ Blk W (w.heap.size + 1 + 1) 39 #[.int .i64 run, .int .i64 byy, .int .i64 att, .int .i64 fnd] ∧ W.cell? ⟨w.heap.size + 1, 0, none⟩ = some (.slice A1 n1 c1) ∧ W.cell? ⟨w.heap.size + 1, 1, none⟩ = some (.slice A n c) ∧ W.cell? ⟨w.heap.size + 1, 2, none⟩ = some (.int .i64 bg)) W) := fun W hB => ⟨hB, HX1b.out.below hB hxx1, HX2b.out.below hB hxx2, (HX1b.out.below hB hxx1).cell 0, (HX1b.out.below hB hxx1).cell 1, (HX1b.out.below hB hxx1).cell 2⟩
    go_cut [10] (fun s wx => ∃ (g : Nat) (x y : Value), s = .pointer (some ⟨g, 0, none⟩) ∧ Blk wx g 30 #[x, y, .int .i64 bg] ∧ OwnI wx wb.heap.size x runs ∧ OwnS wx wb.heap.size y (n + 1) swq ∧ wb.heap.size ≤ g ∧ Below wb.heap.size wb wx)
    case first =>
      have HB : Hid (Below wb.heap.size wb wb.drew) := hide ((Below.refl wb.heap.size wb).drew)
      have h0 := HS.out _ HB.out
      refine wp_region_held_drew (S := fun W => Below wb.heap.size wb W ∧ Blk W (w.heap.size + 1) 30 #[.slice A1 n1 c1, .slice A n c, .int .i64 bg] ∧ Blk W (w.heap.size + 1 + 1) 39 #[.int .i64 run, .int .i64 byy, .int .i64 att, .int .i64 fnd] ∧ W.cell? ⟨w.heap.size + 1, 0, none⟩ = some (.slice A1 n1 c1) ∧ W.cell? ⟨w.heap.size + 1, 1, none⟩ = some (.slice A n c) ∧ W.cell? ⟨w.heap.size + 1, 2, none⟩ = some (.int .i64 bg)) (by kernel_rfl) (h0) (fun hHeld => ?_)
      refine held_run 0 (some 17) (.fieldAddr 30 (.tmp 5) 0) ?v3_1_2 (by rfl) (by kernel_rfl) (by kernel_rfl) (by kernel_rfl) (fun _ _ _ h => h) (fun o ho w hS => ?y3_1_2) (by assumption) ?r3_1_2
      case y3_1_2 => (try dsimp only at hS); unfold execOp; simp only [ho]; go_simp; try with_reducible rfl
      try simp only [Act.put, List.setIfInBounds_toArray, List.set_cons_zero, List.set_cons_succ]
      refine held_run 1 (some 18) (.load 25 (.tmp 17)) ?v3_1_3 (by rfl) (by kernel_rfl) (by kernel_rfl) (by kernel_rfl) (fun _ _ _ h => h) (fun o ho w hS => ?y3_1_3) (by assumption) ?r3_1_3
      case y3_1_3 => (try dsimp only at hS); unfold execOp; simp only [ho]; go_simp; try with_reducible rfl
      try simp only [Act.put, List.setIfInBounds_toArray, List.set_cons_zero, List.set_cons_succ]
      refine held_run 3 (some 20) (.fieldAddr 30 (.tmp 5) 1) ?v3_1_4 (by rfl) (by kernel_rfl) (by kernel_rfl) (by kernel_rfl) (fun _ _ _ h => h) (fun o ho w hS => ?y3_1_4) (by assumption) ?r3_1_4
      case y3_1_4 => (try dsimp only at hS); unfold execOp; simp only [ho]; go_simp; try with_reducible rfl
      try simp only [Act.put, List.setIfInBounds_toArray, List.set_cons_zero, List.set_cons_succ]
      refine held_run 4 (some 21) (.load 28 (.tmp 20)) ?v3_1_5 (by rfl) (by kernel_rfl) (by kernel_rfl) (by kernel_rfl) (fun _ _ _ h => h) (fun o ho w hS => ?y3_1_5) (by assumption) ?r3_1_5
      case y3_1_5 => (try dsimp only at hS); unfold execOp; simp only [ho]; go_simp; try with_reducible rfl
      try simp only [Act.put, List.setIfInBounds_toArray, List.set_cons_zero, List.set_cons_succ]
      refine held_load 6 (some 23) 39 (.tmp 7) (by rfl) (by kernel_rfl) (by kernel_rfl) (by kernel_rfl) (w.heap.size + 1 + 1) 39 #[.int .i64 run, .int .i64 byy, .int .i64 att, .int .i64 fnd] (fun _ _ _ h => h) (by rfl) (fun _ h => h.2.2.1) _ Try.underlying39 rfl (by kernel_rfl) (by assumption) ?_
      try simp only [Act.put, List.setIfInBounds_toArray, List.set_cons_zero, List.set_cons_succ]
      refine held_run 9 (some 26) (.fieldAddr 30 (.tmp 5) 2) ?v3_1_7 (by rfl) (by kernel_rfl) (by kernel_rfl) (by kernel_rfl) (fun _ _ _ h => h) (fun o ho w hS => ?y3_1_7) (by assumption) ?r3_1_7
      case y3_1_7 => (try dsimp only at hS); unfold execOp; simp only [ho]; go_simp; try with_reducible rfl
      try simp only [Act.put, List.setIfInBounds_toArray, List.set_cons_zero, List.set_cons_succ]
      refine held_run 10 (some 27) (.load 3 (.tmp 26)) ?v3_1_8 (by rfl) (by kernel_rfl) (by kernel_rfl) (by kernel_rfl) (fun _ _ _ h => h) (fun o ho w hS => ?y3_1_8) (by assumption) ?r3_1_8
      case y3_1_8 => (try dsimp only at hS); unfold execOp; simp only [ho]; go_simp; try with_reducible rfl
      try simp only [Act.put, List.setIfInBounds_toArray, List.set_cons_zero, List.set_cons_succ]
      refine held_three 2 7 12 (by kernel_rfl) ?_ ?_ ?_
      · refine op_call 2 (some 19) 51 [(.tmp 18)] #[25] #[.slice A1 n1 c1] (by rfl) (by rfl) Try.func51 (by rfl) (by rfl) ?_
        refine (clone_i A1 n1 c1 wb.heap.size runs _ (HR1b.out.below HB.out) (by omega) HB.out.size).mono ?_
        rintro e wq ⟨v2, rfl, ho, hb⟩
        obtain ⟨A2, c2, rfl, _⟩ := own_open ho
        have HI := Lib.hid (show OwnI wq wb.heap.size (.slice A2 runs.length c2) runs from ho.mono HB.out.size)
        have HBn := HB.out.trans (hb.mono HB.out.size)
        try have H5 := Lib.hid (own_below H5.out hb (Nat.le_refl _))
        try have HA := Lib.hid (own_below HA.out hb (Nat.le_refl _))
        try have HLt := Lib.hid (HLt.out.below hb HLt.out.lt)
        try have HZ := Lib.hid (HZ.out.below hb HZ.out.lt)
        have HB := Lib.hid HBn
        clear HBn
        refine ⟨_, rfl, HS.out _ HB.out, ?_⟩
        clear ho hb
        try simp only [Act.put, List.setIfInBounds_toArray, List.set_cons_zero, List.set_cons_succ]
        refine held_three 5 7 12 (by kernel_rfl) ?_ ?_ ?_
        · refine op_call 5 (some 22) 52 [(.tmp 21)] #[28] #[.slice A n c] (by rfl) (by rfl) Try.func52 (by rfl) (by rfl) ?_
          refine (clone_s A n c wb.heap.size sw _ (HRb.out.below HB.out) HL.out (by omega) HB.out.size).mono ?_
          rintro e wq ⟨v5, rfl, ho, hb⟩
          have H5 := Lib.hid (show OwnS wq wb.heap.size v5 n sw from own_mono ho HB.out.size)
          have HBn := HB.out.trans (hb.mono HB.out.size)
          try have HI := Lib.hid (own_below HI.out hb (Nat.le_refl _))
          try have HA := Lib.hid (own_below HA.out hb (Nat.le_refl _))
          try have HLt := Lib.hid (HLt.out.below hb HLt.out.lt)
          try have HZ := Lib.hid (HZ.out.below hb HZ.out.lt)
          have HB := Lib.hid HBn
          clear HBn
          refine ⟨_, rfl, HS.out _ HB.out, ?_⟩
          clear ho hb
          try simp only [Act.put, List.setIfInBounds_toArray, List.set_cons_zero, List.set_cons_succ]
          refine held_two 7 12 (by kernel_rfl) ?_ ?_
          · refine op_lit1 7 (some 24) 28 39 (.tmp 23) _ _ _ _ (by rfl) rfl Try.underlying28 (by kernel_rfl) ?_
            intro wq hx hb
            have HLt := Lib.hid hx
            have HBn := HB.out.trans (hb.mono HB.out.size)
            try have HI := Lib.hid (own_below HI.out hb (Nat.le_refl _))
            try have H5 := Lib.hid (own_below H5.out hb (Nat.le_refl _))
            try have HA := Lib.hid (own_below HA.out hb (Nat.le_refl _))
            try have HZ := Lib.hid (HZ.out.below hb HZ.out.lt)
            have HB := Lib.hid HBn
            clear HBn
            refine ⟨HS.out _ HB.out, ?_⟩
            clear hx hb
            try simp only [Act.put, List.setIfInBounds_toArray, List.set_cons_zero, List.set_cons_succ]
            refine held_two 8 12 (by kernel_rfl) ?_ ?_
            · refine op_app ei_sw 8 (some 25) (.tmp 22) (.tmp 24) (by rfl) wb.heap.size _ n (sw.map Sw.cells).flatten rfl H5.out _ _ 1 1 [.int .i64 run, .int .i64 byy, .int .i64 att, .int .i64 fnd] rfl (reads_blk HLt.out (n := 1) (s := 4) rfl) (by simp [Value.oneCell']) (by simp only [maxLen]; omega) (by omega) HB.out.size ?_
              intro v8 wq ho hg hb _
              obtain ⟨A8, c8, rfl, _⟩ := own_open ho
              have HA : Hid (OwnS wq wb.heap.size (.slice A8 (n + 1) c8) (n + 1) swq) := hide (by show World.ownsRow _ _ _ _ _ _ _; rw [HFl.out, List.flatten_append]; simpa using ho)
              try have HI := Lib.hid (HI.out.kept hg (own_ne HI.out H5.out (by decide)))
              try have HZ := Lib.hid (HZ.out.grown hg (own_blk_ne H5.out HZ.out (by decide)))
              have HB := Lib.hid (HB.out.trans hb)
              refine ⟨HS.out _ HB.out, ?_⟩
              clear ho hg hb
              try simp only [Act.put, List.setIfInBounds_toArray, List.set_cons_zero, List.set_cons_succ]
              refine held_build 11 (some 28) 30 #[(0, .tmp 19), (1, .tmp 25), (2, .tmp 27)] [(0, .slice A2 runs.length c2), (1, .slice A8 (n + 1) c8), (2, .int .i64 bg)] #[.slice A2 runs.length c2, .slice A8 (n + 1) c8, .int .i64 bg] (by rfl) (by kernel_rfl) (by kernel_rfl) (by kernel_rfl) (fun _ _ _ h => h) (by first | (simp [Act.eval]; done) | go_simp) (by kernel_rfl) (HS.out _ HB.out) ?_
              try simp only [Act.put, List.setIfInBounds_toArray, List.set_cons_zero, List.set_cons_succ]
              refine held_one 12 (by kernel_rfl) ?_
              refine op_alloc 12 (some 10) 30 #[.slice none 0 0, .slice none 0 0, .int .i64 0] (by rfl) (by kernel_rfl) ?_
              intro wq hx hb
              have hzg := HB.out.size
              have HZ := Lib.hid hx
              have HBn := HB.out.trans (hb.mono HB.out.size)
              try have HI := Lib.hid (own_below HI.out hb (Nat.le_refl _))
              try have H5 := Lib.hid (own_below H5.out hb (Nat.le_refl _))
              try have HA := Lib.hid (own_below HA.out hb (Nat.le_refl _))
              try have HLt := Lib.hid (HLt.out.below hb HLt.out.lt)
              have HB := Lib.hid HBn
              clear HBn
              refine ⟨HS.out _ HB.out, ?_⟩
              clear hx hb
              try simp only [Act.put, List.setIfInBounds_toArray, List.set_cons_zero, List.set_cons_succ]
              refine held_one 13 (by kernel_rfl) ?_
              refine op_store_blk 13 30 (.tmp 10) (.tmp 28) (by rfl) _ #[.slice A2 runs.length c2, .slice A8 (n + 1) c8, .int .i64 bg] rfl rfl _ _ HZ.out (by kernel_rfl) rfl (by simp [Value.oneCell']) ?_
              intro wq hx hon
              have HX := Lib.hid hx
              have HI := Lib.hid (hon.own HI.out (by first | exact fun e => (own_blk_ne HI.out HZ.out (by decide)) e.symm))
              have HA := Lib.hid (hon.own HA.out (fun e => (own_blk_ne HA.out HZ.out (by decide)) e.symm))
              have HB := Lib.hid (hon.below HB.out hzg)
              refine ⟨HS.out _ HB.out, ?_⟩
              clear hx hon
              try simp only [Act.put]
              refine wpAnyH_done (by kernel_rfl) ?_ _
              go_wp2_with fail
              go_meet
              exact ⟨_, _, _, rfl, HX.out, HI.out, HA.out, hzg, HB.out⟩
            · refine op_alloc 12 (some 10) 30 #[.slice none 0 0, .slice none 0 0, .int .i64 0] (by rfl) (by kernel_rfl) ?_
              intro wq hx hb
              have hzg := HB.out.size
              have HZ := Lib.hid hx
              have HBn := HB.out.trans (hb.mono HB.out.size)
              try have HI := Lib.hid (own_below HI.out hb (Nat.le_refl _))
              try have H5 := Lib.hid (own_below H5.out hb (Nat.le_refl _))
              try have HA := Lib.hid (own_below HA.out hb (Nat.le_refl _))
              try have HLt := Lib.hid (HLt.out.below hb HLt.out.lt)
              have HB := Lib.hid HBn
              clear HBn
              refine ⟨HS.out _ HB.out, ?_⟩
              clear hx hb
              try simp only [Act.put, List.setIfInBounds_toArray, List.set_cons_zero, List.set_cons_succ]
              refine held_one 8 (by kernel_rfl) ?_
              refine op_app ei_sw 8 (some 25) (.tmp 22) (.tmp 24) (by rfl) wb.heap.size _ n (sw.map Sw.cells).flatten rfl H5.out _ _ 1 1 [.int .i64 run, .int .i64 byy, .int .i64 att, .int .i64 fnd] rfl (reads_blk HLt.out (n := 1) (s := 4) rfl) (by simp [Value.oneCell']) (by simp only [maxLen]; omega) (by omega) HB.out.size ?_
              intro v8 wq ho hg hb _
              obtain ⟨A8, c8, rfl, _⟩ := own_open ho
              have HA : Hid (OwnS wq wb.heap.size (.slice A8 (n + 1) c8) (n + 1) swq) := hide (by show World.ownsRow _ _ _ _ _ _ _; rw [HFl.out, List.flatten_append]; simpa using ho)
              try have HI := Lib.hid (HI.out.kept hg (own_ne HI.out H5.out (by decide)))
              try have HZ := Lib.hid (HZ.out.grown hg (own_blk_ne H5.out HZ.out (by decide)))
              have HB := Lib.hid (HB.out.trans hb)
              refine ⟨HS.out _ HB.out, ?_⟩
              clear ho hg hb
              try simp only [Act.put, List.setIfInBounds_toArray, List.set_cons_zero, List.set_cons_succ]
              refine held_build 11 (some 28) 30 #[(0, .tmp 19), (1, .tmp 25), (2, .tmp 27)] [(0, .slice A2 runs.length c2), (1, .slice A8 (n + 1) c8), (2, .int .i64 bg)] #[.slice A2 runs.length c2, .slice A8 (n + 1) c8, .int .i64 bg] (by rfl) (by kernel_rfl) (by kernel_rfl) (by kernel_rfl) (fun _ _ _ h => h) (by first | (simp [Act.eval]; done) | go_simp) (by kernel_rfl) (HS.out _ HB.out) ?_
              try simp only [Act.put, List.setIfInBounds_toArray, List.set_cons_zero, List.set_cons_succ]
              refine held_one 13 (by kernel_rfl) ?_
              refine op_store_blk 13 30 (.tmp 10) (.tmp 28) (by rfl) _ #[.slice A2 runs.length c2, .slice A8 (n + 1) c8, .int .i64 bg] rfl rfl _ _ HZ.out (by kernel_rfl) rfl (by simp [Value.oneCell']) ?_
              intro wq hx hon
              have HX := Lib.hid hx
              have HI := Lib.hid (hon.own HI.out (by first | exact fun e => (own_blk_ne HI.out HZ.out (by decide)) e.symm))
              have HA := Lib.hid (hon.own HA.out (fun e => (own_blk_ne HA.out HZ.out (by decide)) e.symm))
              have HB := Lib.hid (hon.below HB.out hzg)
              refine ⟨HS.out _ HB.out, ?_⟩
              clear hx hon
              try simp only [Act.put]
              refine wpAnyH_done (by kernel_rfl) ?_ _
              go_wp2_with fail
              go_meet
              exact ⟨_, _, _, rfl, HX.out, HI.out, HA.out, hzg, HB.out⟩
          · refine op_alloc 12 (some 10) 30 #[.slice none 0 0, .slice none 0 0, .int .i64 0] (by rfl) (by kernel_rfl) ?_
            intro wq hx hb
            have hzg := HB.out.size
            have HZ := Lib.hid hx
            have HBn := HB.out.trans (hb.mono HB.out.size)
            try have HI := Lib.hid (own_below HI.out hb (Nat.le_refl _))
            try have H5 := Lib.hid (own_below H5.out hb (Nat.le_refl _))
            try have HA := Lib.hid (own_below HA.out hb (Nat.le_refl _))
            try have HLt := Lib.hid (HLt.out.below hb HLt.out.lt)
            have HB := Lib.hid HBn
            clear HBn
            refine ⟨HS.out _ HB.out, ?_⟩
            clear hx hb
            try simp only [Act.put, List.setIfInBounds_toArray, List.set_cons_zero, List.set_cons_succ]
            refine held_one 7 (by kernel_rfl) ?_
            refine op_lit1 7 (some 24) 28 39 (.tmp 23) _ _ _ _ (by rfl) rfl Try.underlying28 (by kernel_rfl) ?_
            intro wq hx hb
            have HLt := Lib.hid hx
            have HBn := HB.out.trans (hb.mono HB.out.size)
            try have HI := Lib.hid (own_below HI.out hb (Nat.le_refl _))
            try have H5 := Lib.hid (own_below H5.out hb (Nat.le_refl _))
            try have HA := Lib.hid (own_below HA.out hb (Nat.le_refl _))
            try have HZ := Lib.hid (HZ.out.below hb HZ.out.lt)
            have HB := Lib.hid HBn
            clear HBn
            refine ⟨HS.out _ HB.out, ?_⟩
            clear hx hb
            try simp only [Act.put, List.setIfInBounds_toArray, List.set_cons_zero, List.set_cons_succ]
            refine held_one 8 (by kernel_rfl) ?_
            refine op_app ei_sw 8 (some 25) (.tmp 22) (.tmp 24) (by rfl) wb.heap.size _ n (sw.map Sw.cells).flatten rfl H5.out _ _ 1 1 [.int .i64 run, .int .i64 byy, .int .i64 att, .int .i64 fnd] rfl (reads_blk HLt.out (n := 1) (s := 4) rfl) (by simp [Value.oneCell']) (by simp only [maxLen]; omega) (by omega) HB.out.size ?_
            intro v8 wq ho hg hb _
            obtain ⟨A8, c8, rfl, _⟩ := own_open ho
            have HA : Hid (OwnS wq wb.heap.size (.slice A8 (n + 1) c8) (n + 1) swq) := hide (by show World.ownsRow _ _ _ _ _ _ _; rw [HFl.out, List.flatten_append]; simpa using ho)
            try have HI := Lib.hid (HI.out.kept hg (own_ne HI.out H5.out (by decide)))
            try have HZ := Lib.hid (HZ.out.grown hg (own_blk_ne H5.out HZ.out (by decide)))
            have HB := Lib.hid (HB.out.trans hb)
            refine ⟨HS.out _ HB.out, ?_⟩
            clear ho hg hb
            try simp only [Act.put, List.setIfInBounds_toArray, List.set_cons_zero, List.set_cons_succ]
            refine held_build 11 (some 28) 30 #[(0, .tmp 19), (1, .tmp 25), (2, .tmp 27)] [(0, .slice A2 runs.length c2), (1, .slice A8 (n + 1) c8), (2, .int .i64 bg)] #[.slice A2 runs.length c2, .slice A8 (n + 1) c8, .int .i64 bg] (by rfl) (by kernel_rfl) (by kernel_rfl) (by kernel_rfl) (fun _ _ _ h => h) (by first | (simp [Act.eval]; done) | go_simp) (by kernel_rfl) (HS.out _ HB.out) ?_
            try simp only [Act.put, List.setIfInBounds_toArray, List.set_cons_zero, List.set_cons_succ]
            refine held_one 13 (by kernel_rfl) ?_
            refine op_store_blk 13 30 (.tmp 10) (.tmp 28) (by rfl) _ #[.slice A2 runs.length c2, .slice A8 (n + 1) c8, .int .i64 bg] rfl rfl _ _ HZ.out (by kernel_rfl) rfl (by simp [Value.oneCell']) ?_
            intro wq hx hon
            have HX := Lib.hid hx
            have HI := Lib.hid (hon.own HI.out (by first | exact fun e => (own_blk_ne HI.out HZ.out (by decide)) e.symm))
            have HA := Lib.hid (hon.own HA.out (fun e => (own_blk_ne HA.out HZ.out (by decide)) e.symm))
            have HB := Lib.hid (hon.below HB.out hzg)
            refine ⟨HS.out _ HB.out, ?_⟩
            clear hx hon
            try simp only [Act.put]
            refine wpAnyH_done (by kernel_rfl) ?_ _
            go_wp2_with fail
            go_meet
            exact ⟨_, _, _, rfl, HX.out, HI.out, HA.out, hzg, HB.out⟩
        · refine op_lit1 7 (some 24) 28 39 (.tmp 23) _ _ _ _ (by rfl) rfl Try.underlying28 (by kernel_rfl) ?_
          intro wq hx hb
          have HLt := Lib.hid hx
          have HBn := HB.out.trans (hb.mono HB.out.size)
          try have HI := Lib.hid (own_below HI.out hb (Nat.le_refl _))
          try have H5 := Lib.hid (own_below H5.out hb (Nat.le_refl _))
          try have HA := Lib.hid (own_below HA.out hb (Nat.le_refl _))
          try have HZ := Lib.hid (HZ.out.below hb HZ.out.lt)
          have HB := Lib.hid HBn
          clear HBn
          refine ⟨HS.out _ HB.out, ?_⟩
          clear hx hb
          try simp only [Act.put, List.setIfInBounds_toArray, List.set_cons_zero, List.set_cons_succ]
          refine held_two 5 12 (by kernel_rfl) ?_ ?_
          · refine op_call 5 (some 22) 52 [(.tmp 21)] #[28] #[.slice A n c] (by rfl) (by rfl) Try.func52 (by rfl) (by rfl) ?_
            refine (clone_s A n c wb.heap.size sw _ (HRb.out.below HB.out) HL.out (by omega) HB.out.size).mono ?_
            rintro e wq ⟨v5, rfl, ho, hb⟩
            have H5 := Lib.hid (show OwnS wq wb.heap.size v5 n sw from own_mono ho HB.out.size)
            have HBn := HB.out.trans (hb.mono HB.out.size)
            try have HI := Lib.hid (own_below HI.out hb (Nat.le_refl _))
            try have HA := Lib.hid (own_below HA.out hb (Nat.le_refl _))
            try have HLt := Lib.hid (HLt.out.below hb HLt.out.lt)
            try have HZ := Lib.hid (HZ.out.below hb HZ.out.lt)
            have HB := Lib.hid HBn
            clear HBn
            refine ⟨_, rfl, HS.out _ HB.out, ?_⟩
            clear ho hb
            try simp only [Act.put, List.setIfInBounds_toArray, List.set_cons_zero, List.set_cons_succ]
            refine held_two 8 12 (by kernel_rfl) ?_ ?_
            · refine op_app ei_sw 8 (some 25) (.tmp 22) (.tmp 24) (by rfl) wb.heap.size _ n (sw.map Sw.cells).flatten rfl H5.out _ _ 1 1 [.int .i64 run, .int .i64 byy, .int .i64 att, .int .i64 fnd] rfl (reads_blk HLt.out (n := 1) (s := 4) rfl) (by simp [Value.oneCell']) (by simp only [maxLen]; omega) (by omega) HB.out.size ?_
              intro v8 wq ho hg hb _
              obtain ⟨A8, c8, rfl, _⟩ := own_open ho
              have HA : Hid (OwnS wq wb.heap.size (.slice A8 (n + 1) c8) (n + 1) swq) := hide (by show World.ownsRow _ _ _ _ _ _ _; rw [HFl.out, List.flatten_append]; simpa using ho)
              try have HI := Lib.hid (HI.out.kept hg (own_ne HI.out H5.out (by decide)))
              try have HZ := Lib.hid (HZ.out.grown hg (own_blk_ne H5.out HZ.out (by decide)))
              have HB := Lib.hid (HB.out.trans hb)
              refine ⟨HS.out _ HB.out, ?_⟩
              clear ho hg hb
              try simp only [Act.put, List.setIfInBounds_toArray, List.set_cons_zero, List.set_cons_succ]
              refine held_build 11 (some 28) 30 #[(0, .tmp 19), (1, .tmp 25), (2, .tmp 27)] [(0, .slice A2 runs.length c2), (1, .slice A8 (n + 1) c8), (2, .int .i64 bg)] #[.slice A2 runs.length c2, .slice A8 (n + 1) c8, .int .i64 bg] (by rfl) (by kernel_rfl) (by kernel_rfl) (by kernel_rfl) (fun _ _ _ h => h) (by first | (simp [Act.eval]; done) | go_simp) (by kernel_rfl) (HS.out _ HB.out) ?_
              try simp only [Act.put, List.setIfInBounds_toArray, List.set_cons_zero, List.set_cons_succ]
              refine held_one 12 (by kernel_rfl) ?_
              refine op_alloc 12 (some 10) 30 #[.slice none 0 0, .slice none 0 0, .int .i64 0] (by rfl) (by kernel_rfl) ?_
              intro wq hx hb
              have hzg := HB.out.size
              have HZ := Lib.hid hx
              have HBn := HB.out.trans (hb.mono HB.out.size)
              try have HI := Lib.hid (own_below HI.out hb (Nat.le_refl _))
              try have H5 := Lib.hid (own_below H5.out hb (Nat.le_refl _))
              try have HA := Lib.hid (own_below HA.out hb (Nat.le_refl _))
              try have HLt := Lib.hid (HLt.out.below hb HLt.out.lt)
              have HB := Lib.hid HBn
              clear HBn
              refine ⟨HS.out _ HB.out, ?_⟩
              clear hx hb
              try simp only [Act.put, List.setIfInBounds_toArray, List.set_cons_zero, List.set_cons_succ]
              refine held_one 13 (by kernel_rfl) ?_
              refine op_store_blk 13 30 (.tmp 10) (.tmp 28) (by rfl) _ #[.slice A2 runs.length c2, .slice A8 (n + 1) c8, .int .i64 bg] rfl rfl _ _ HZ.out (by kernel_rfl) rfl (by simp [Value.oneCell']) ?_
              intro wq hx hon
              have HX := Lib.hid hx
              have HI := Lib.hid (hon.own HI.out (by first | exact fun e => (own_blk_ne HI.out HZ.out (by decide)) e.symm))
              have HA := Lib.hid (hon.own HA.out (fun e => (own_blk_ne HA.out HZ.out (by decide)) e.symm))
              have HB := Lib.hid (hon.below HB.out hzg)
              refine ⟨HS.out _ HB.out, ?_⟩
              clear hx hon
              try simp only [Act.put]
              refine wpAnyH_done (by kernel_rfl) ?_ _
              go_wp2_with fail
              go_meet
              exact ⟨_, _, _, rfl, HX.out, HI.out, HA.out, hzg, HB.out⟩
            · refine op_alloc 12 (some 10) 30 #[.slice none 0 0, .slice none 0 0, .int .i64 0] (by rfl) (by kernel_rfl) ?_
              intro wq hx hb
              have hzg := HB.out.size
              have HZ := Lib.hid hx
              have HBn := HB.out.trans (hb.mono HB.out.size)
              try have HI := Lib.hid (own_below HI.out hb (Nat.le_refl _))
              try have H5 := Lib.hid (own_below H5.out hb (Nat.le_refl _))
              try have HA := Lib.hid (own_below HA.out hb (Nat.le_refl _))
              try have HLt := Lib.hid (HLt.out.below hb HLt.out.lt)
              have HB := Lib.hid HBn
              clear HBn
              refine ⟨HS.out _ HB.out, ?_⟩
              clear hx hb
              try simp only [Act.put, List.setIfInBounds_toArray, List.set_cons_zero, List.set_cons_succ]
              refine held_one 8 (by kernel_rfl) ?_
              refine op_app ei_sw 8 (some 25) (.tmp 22) (.tmp 24) (by rfl) wb.heap.size _ n (sw.map Sw.cells).flatten rfl H5.out _ _ 1 1 [.int .i64 run, .int .i64 byy, .int .i64 att, .int .i64 fnd] rfl (reads_blk HLt.out (n := 1) (s := 4) rfl) (by simp [Value.oneCell']) (by simp only [maxLen]; omega) (by omega) HB.out.size ?_
              intro v8 wq ho hg hb _
              obtain ⟨A8, c8, rfl, _⟩ := own_open ho
              have HA : Hid (OwnS wq wb.heap.size (.slice A8 (n + 1) c8) (n + 1) swq) := hide (by show World.ownsRow _ _ _ _ _ _ _; rw [HFl.out, List.flatten_append]; simpa using ho)
              try have HI := Lib.hid (HI.out.kept hg (own_ne HI.out H5.out (by decide)))
              try have HZ := Lib.hid (HZ.out.grown hg (own_blk_ne H5.out HZ.out (by decide)))
              have HB := Lib.hid (HB.out.trans hb)
              refine ⟨HS.out _ HB.out, ?_⟩
              clear ho hg hb
              try simp only [Act.put, List.setIfInBounds_toArray, List.set_cons_zero, List.set_cons_succ]
              refine held_build 11 (some 28) 30 #[(0, .tmp 19), (1, .tmp 25), (2, .tmp 27)] [(0, .slice A2 runs.length c2), (1, .slice A8 (n + 1) c8), (2, .int .i64 bg)] #[.slice A2 runs.length c2, .slice A8 (n + 1) c8, .int .i64 bg] (by rfl) (by kernel_rfl) (by kernel_rfl) (by kernel_rfl) (fun _ _ _ h => h) (by first | (simp [Act.eval]; done) | go_simp) (by kernel_rfl) (HS.out _ HB.out) ?_
              try simp only [Act.put, List.setIfInBounds_toArray, List.set_cons_zero, List.set_cons_succ]
              refine held_one 13 (by kernel_rfl) ?_
              refine op_store_blk 13 30 (.tmp 10) (.tmp 28) (by rfl) _ #[.slice A2 runs.length c2, .slice A8 (n + 1) c8, .int .i64 bg] rfl rfl _ _ HZ.out (by kernel_rfl) rfl (by simp [Value.oneCell']) ?_
              intro wq hx hon
              have HX := Lib.hid hx
              have HI := Lib.hid (hon.own HI.out (by first | exact fun e => (own_blk_ne HI.out HZ.out (by decide)) e.symm))
              have HA := Lib.hid (hon.own HA.out (fun e => (own_blk_ne HA.out HZ.out (by decide)) e.symm))
              have HB := Lib.hid (hon.below HB.out hzg)
              refine ⟨HS.out _ HB.out, ?_⟩
              clear hx hon
              try simp only [Act.put]
              refine wpAnyH_done (by kernel_rfl) ?_ _
              go_wp2_with fail
              go_meet
              exact ⟨_, _, _, rfl, HX.out, HI.out, HA.out, hzg, HB.out⟩
          · refine op_alloc 12 (some 10) 30 #[.slice none 0 0, .slice none 0 0, .int .i64 0] (by rfl) (by kernel_rfl) ?_
            intro wq hx hb
            have hzg := HB.out.size
            have HZ := Lib.hid hx
            have HBn := HB.out.trans (hb.mono HB.out.size)
            try have HI := Lib.hid (own_below HI.out hb (Nat.le_refl _))
            try have H5 := Lib.hid (own_below H5.out hb (Nat.le_refl _))
            try have HA := Lib.hid (own_below HA.out hb (Nat.le_refl _))
            try have HLt := Lib.hid (HLt.out.below hb HLt.out.lt)
            have HB := Lib.hid HBn
            clear HBn
            refine ⟨HS.out _ HB.out, ?_⟩
            clear hx hb
            try simp only [Act.put, List.setIfInBounds_toArray, List.set_cons_zero, List.set_cons_succ]
            refine held_one 5 (by kernel_rfl) ?_
            refine op_call 5 (some 22) 52 [(.tmp 21)] #[28] #[.slice A n c] (by rfl) (by rfl) Try.func52 (by rfl) (by rfl) ?_
            refine (clone_s A n c wb.heap.size sw _ (HRb.out.below HB.out) HL.out (by omega) HB.out.size).mono ?_
            rintro e wq ⟨v5, rfl, ho, hb⟩
            have H5 := Lib.hid (show OwnS wq wb.heap.size v5 n sw from own_mono ho HB.out.size)
            have HBn := HB.out.trans (hb.mono HB.out.size)
            try have HI := Lib.hid (own_below HI.out hb (Nat.le_refl _))
            try have HA := Lib.hid (own_below HA.out hb (Nat.le_refl _))
            try have HLt := Lib.hid (HLt.out.below hb HLt.out.lt)
            try have HZ := Lib.hid (HZ.out.below hb HZ.out.lt)
            have HB := Lib.hid HBn
            clear HBn
            refine ⟨_, rfl, HS.out _ HB.out, ?_⟩
            clear ho hb
            try simp only [Act.put, List.setIfInBounds_toArray, List.set_cons_zero, List.set_cons_succ]
            refine held_one 8 (by kernel_rfl) ?_
            refine op_app ei_sw 8 (some 25) (.tmp 22) (.tmp 24) (by rfl) wb.heap.size _ n (sw.map Sw.cells).flatten rfl H5.out _ _ 1 1 [.int .i64 run, .int .i64 byy, .int .i64 att, .int .i64 fnd] rfl (reads_blk HLt.out (n := 1) (s := 4) rfl) (by simp [Value.oneCell']) (by simp only [maxLen]; omega) (by omega) HB.out.size ?_
            intro v8 wq ho hg hb _
            obtain ⟨A8, c8, rfl, _⟩ := own_open ho
            have HA : Hid (OwnS wq wb.heap.size (.slice A8 (n + 1) c8) (n + 1) swq) := hide (by show World.ownsRow _ _ _ _ _ _ _; rw [HFl.out, List.flatten_append]; simpa using ho)
            try have HI := Lib.hid (HI.out.kept hg (own_ne HI.out H5.out (by decide)))
            try have HZ := Lib.hid (HZ.out.grown hg (own_blk_ne H5.out HZ.out (by decide)))
            have HB := Lib.hid (HB.out.trans hb)
            refine ⟨HS.out _ HB.out, ?_⟩
            clear ho hg hb
            try simp only [Act.put, List.setIfInBounds_toArray, List.set_cons_zero, List.set_cons_succ]
            refine held_build 11 (some 28) 30 #[(0, .tmp 19), (1, .tmp 25), (2, .tmp 27)] [(0, .slice A2 runs.length c2), (1, .slice A8 (n + 1) c8), (2, .int .i64 bg)] #[.slice A2 runs.length c2, .slice A8 (n + 1) c8, .int .i64 bg] (by rfl) (by kernel_rfl) (by kernel_rfl) (by kernel_rfl) (fun _ _ _ h => h) (by first | (simp [Act.eval]; done) | go_simp) (by kernel_rfl) (HS.out _ HB.out) ?_
            try simp only [Act.put, List.setIfInBounds_toArray, List.set_cons_zero, List.set_cons_succ]
            refine held_one 13 (by kernel_rfl) ?_
            refine op_store_blk 13 30 (.tmp 10) (.tmp 28) (by rfl) _ #[.slice A2 runs.length c2, .slice A8 (n + 1) c8, .int .i64 bg] rfl rfl _ _ HZ.out (by kernel_rfl) rfl (by simp [Value.oneCell']) ?_
            intro wq hx hon
            have HX := Lib.hid hx
            have HI := Lib.hid (hon.own HI.out (by first | exact fun e => (own_blk_ne HI.out HZ.out (by decide)) e.symm))
            have HA := Lib.hid (hon.own HA.out (fun e => (own_blk_ne HA.out HZ.out (by decide)) e.symm))
            have HB := Lib.hid (hon.below HB.out hzg)
            refine ⟨HS.out _ HB.out, ?_⟩
            clear hx hon
            try simp only [Act.put]
            refine wpAnyH_done (by kernel_rfl) ?_ _
            go_wp2_with fail
            go_meet
            exact ⟨_, _, _, rfl, HX.out, HI.out, HA.out, hzg, HB.out⟩
        · refine op_alloc 12 (some 10) 30 #[.slice none 0 0, .slice none 0 0, .int .i64 0] (by rfl) (by kernel_rfl) ?_
          intro wq hx hb
          have hzg := HB.out.size
          have HZ := Lib.hid hx
          have HBn := HB.out.trans (hb.mono HB.out.size)
          try have HI := Lib.hid (own_below HI.out hb (Nat.le_refl _))
          try have H5 := Lib.hid (own_below H5.out hb (Nat.le_refl _))
          try have HA := Lib.hid (own_below HA.out hb (Nat.le_refl _))
          try have HLt := Lib.hid (HLt.out.below hb HLt.out.lt)
          have HB := Lib.hid HBn
          clear HBn
          refine ⟨HS.out _ HB.out, ?_⟩
          clear hx hb
          try simp only [Act.put, List.setIfInBounds_toArray, List.set_cons_zero, List.set_cons_succ]
          refine held_two 5 7 (by kernel_rfl) ?_ ?_
          · refine op_call 5 (some 22) 52 [(.tmp 21)] #[28] #[.slice A n c] (by rfl) (by rfl) Try.func52 (by rfl) (by rfl) ?_
            refine (clone_s A n c wb.heap.size sw _ (HRb.out.below HB.out) HL.out (by omega) HB.out.size).mono ?_
            rintro e wq ⟨v5, rfl, ho, hb⟩
            have H5 := Lib.hid (show OwnS wq wb.heap.size v5 n sw from own_mono ho HB.out.size)
            have HBn := HB.out.trans (hb.mono HB.out.size)
            try have HI := Lib.hid (own_below HI.out hb (Nat.le_refl _))
            try have HA := Lib.hid (own_below HA.out hb (Nat.le_refl _))
            try have HLt := Lib.hid (HLt.out.below hb HLt.out.lt)
            try have HZ := Lib.hid (HZ.out.below hb HZ.out.lt)
            have HB := Lib.hid HBn
            clear HBn
            refine ⟨_, rfl, HS.out _ HB.out, ?_⟩
            clear ho hb
            try simp only [Act.put, List.setIfInBounds_toArray, List.set_cons_zero, List.set_cons_succ]
            refine held_one 7 (by kernel_rfl) ?_
            refine op_lit1 7 (some 24) 28 39 (.tmp 23) _ _ _ _ (by rfl) rfl Try.underlying28 (by kernel_rfl) ?_
            intro wq hx hb
            have HLt := Lib.hid hx
            have HBn := HB.out.trans (hb.mono HB.out.size)
            try have HI := Lib.hid (own_below HI.out hb (Nat.le_refl _))
            try have H5 := Lib.hid (own_below H5.out hb (Nat.le_refl _))
            try have HA := Lib.hid (own_below HA.out hb (Nat.le_refl _))
            try have HZ := Lib.hid (HZ.out.below hb HZ.out.lt)
            have HB := Lib.hid HBn
            clear HBn
            refine ⟨HS.out _ HB.out, ?_⟩
            clear hx hb
            try simp only [Act.put, List.setIfInBounds_toArray, List.set_cons_zero, List.set_cons_succ]
            refine held_one 8 (by kernel_rfl) ?_
            refine op_app ei_sw 8 (some 25) (.tmp 22) (.tmp 24) (by rfl) wb.heap.size _ n (sw.map Sw.cells).flatten rfl H5.out _ _ 1 1 [.int .i64 run, .int .i64 byy, .int .i64 att, .int .i64 fnd] rfl (reads_blk HLt.out (n := 1) (s := 4) rfl) (by simp [Value.oneCell']) (by simp only [maxLen]; omega) (by omega) HB.out.size ?_
            intro v8 wq ho hg hb _
            obtain ⟨A8, c8, rfl, _⟩ := own_open ho
            have HA : Hid (OwnS wq wb.heap.size (.slice A8 (n + 1) c8) (n + 1) swq) := hide (by show World.ownsRow _ _ _ _ _ _ _; rw [HFl.out, List.flatten_append]; simpa using ho)
            try have HI := Lib.hid (HI.out.kept hg (own_ne HI.out H5.out (by decide)))
            try have HZ := Lib.hid (HZ.out.grown hg (own_blk_ne H5.out HZ.out (by decide)))
            have HB := Lib.hid (HB.out.trans hb)
            refine ⟨HS.out _ HB.out, ?_⟩
            clear ho hg hb
            try simp only [Act.put, List.setIfInBounds_toArray, List.set_cons_zero, List.set_cons_succ]
            refine held_build 11 (some 28) 30 #[(0, .tmp 19), (1, .tmp 25), (2, .tmp 27)] [(0, .slice A2 runs.length c2), (1, .slice A8 (n + 1) c8), (2, .int .i64 bg)] #[.slice A2 runs.length c2, .slice A8 (n + 1) c8, .int .i64 bg] (by rfl) (by kernel_rfl) (by kernel_rfl) (by kernel_rfl) (fun _ _ _ h => h) (by first | (simp [Act.eval]; done) | go_simp) (by kernel_rfl) (HS.out _ HB.out) ?_
            try simp only [Act.put, List.setIfInBounds_toArray, List.set_cons_zero, List.set_cons_succ]
            refine held_one 13 (by kernel_rfl) ?_
            refine op_store_blk 13 30 (.tmp 10) (.tmp 28) (by rfl) _ #[.slice A2 runs.length c2, .slice A8 (n + 1) c8, .int .i64 bg] rfl rfl _ _ HZ.out (by kernel_rfl) rfl (by simp [Value.oneCell']) ?_
            intro wq hx hon
            have HX := Lib.hid hx
            have HI := Lib.hid (hon.own HI.out (by first | exact fun e => (own_blk_ne HI.out HZ.out (by decide)) e.symm))
            have HA := Lib.hid (hon.own HA.out (fun e => (own_blk_ne HA.out HZ.out (by decide)) e.symm))
            have HB := Lib.hid (hon.below HB.out hzg)
            refine ⟨HS.out _ HB.out, ?_⟩
            clear hx hon
            try simp only [Act.put]
            refine wpAnyH_done (by kernel_rfl) ?_ _
            go_wp2_with fail
            go_meet
            exact ⟨_, _, _, rfl, HX.out, HI.out, HA.out, hzg, HB.out⟩
          · refine op_lit1 7 (some 24) 28 39 (.tmp 23) _ _ _ _ (by rfl) rfl Try.underlying28 (by kernel_rfl) ?_
            intro wq hx hb
            have HLt := Lib.hid hx
            have HBn := HB.out.trans (hb.mono HB.out.size)
            try have HI := Lib.hid (own_below HI.out hb (Nat.le_refl _))
            try have H5 := Lib.hid (own_below H5.out hb (Nat.le_refl _))
            try have HA := Lib.hid (own_below HA.out hb (Nat.le_refl _))
            try have HZ := Lib.hid (HZ.out.below hb HZ.out.lt)
            have HB := Lib.hid HBn
            clear HBn
            refine ⟨HS.out _ HB.out, ?_⟩
            clear hx hb
            try simp only [Act.put, List.setIfInBounds_toArray, List.set_cons_zero, List.set_cons_succ]
            refine held_one 5 (by kernel_rfl) ?_
            refine op_call 5 (some 22) 52 [(.tmp 21)] #[28] #[.slice A n c] (by rfl) (by rfl) Try.func52 (by rfl) (by rfl) ?_
            refine (clone_s A n c wb.heap.size sw _ (HRb.out.below HB.out) HL.out (by omega) HB.out.size).mono ?_
            rintro e wq ⟨v5, rfl, ho, hb⟩
            have H5 := Lib.hid (show OwnS wq wb.heap.size v5 n sw from own_mono ho HB.out.size)
            have HBn := HB.out.trans (hb.mono HB.out.size)
            try have HI := Lib.hid (own_below HI.out hb (Nat.le_refl _))
            try have HA := Lib.hid (own_below HA.out hb (Nat.le_refl _))
            try have HLt := Lib.hid (HLt.out.below hb HLt.out.lt)
            try have HZ := Lib.hid (HZ.out.below hb HZ.out.lt)
            have HB := Lib.hid HBn
            clear HBn
            refine ⟨_, rfl, HS.out _ HB.out, ?_⟩
            clear ho hb
            try simp only [Act.put, List.setIfInBounds_toArray, List.set_cons_zero, List.set_cons_succ]
            refine held_one 8 (by kernel_rfl) ?_
            refine op_app ei_sw 8 (some 25) (.tmp 22) (.tmp 24) (by rfl) wb.heap.size _ n (sw.map Sw.cells).flatten rfl H5.out _ _ 1 1 [.int .i64 run, .int .i64 byy, .int .i64 att, .int .i64 fnd] rfl (reads_blk HLt.out (n := 1) (s := 4) rfl) (by simp [Value.oneCell']) (by simp only [maxLen]; omega) (by omega) HB.out.size ?_
            intro v8 wq ho hg hb _
            obtain ⟨A8, c8, rfl, _⟩ := own_open ho
            have HA : Hid (OwnS wq wb.heap.size (.slice A8 (n + 1) c8) (n + 1) swq) := hide (by show World.ownsRow _ _ _ _ _ _ _; rw [HFl.out, List.flatten_append]; simpa using ho)
            try have HI := Lib.hid (HI.out.kept hg (own_ne HI.out H5.out (by decide)))
            try have HZ := Lib.hid (HZ.out.grown hg (own_blk_ne H5.out HZ.out (by decide)))
            have HB := Lib.hid (HB.out.trans hb)
            refine ⟨HS.out _ HB.out, ?_⟩
            clear ho hg hb
            try simp only [Act.put, List.setIfInBounds_toArray, List.set_cons_zero, List.set_cons_succ]
            refine held_build 11 (some 28) 30 #[(0, .tmp 19), (1, .tmp 25), (2, .tmp 27)] [(0, .slice A2 runs.length c2), (1, .slice A8 (n + 1) c8), (2, .int .i64 bg)] #[.slice A2 runs.length c2, .slice A8 (n + 1) c8, .int .i64 bg] (by rfl) (by kernel_rfl) (by kernel_rfl) (by kernel_rfl) (fun _ _ _ h => h) (by first | (simp [Act.eval]; done) | go_simp) (by kernel_rfl) (HS.out _ HB.out) ?_
            try simp only [Act.put, List.setIfInBounds_toArray, List.set_cons_zero, List.set_cons_succ]
            refine held_one 13 (by kernel_rfl) ?_
            refine op_store_blk 13 30 (.tmp 10) (.tmp 28) (by rfl) _ #[.slice A2 runs.length c2, .slice A8 (n + 1) c8, .int .i64 bg] rfl rfl _ _ HZ.out (by kernel_rfl) rfl (by simp [Value.oneCell']) ?_
            intro wq hx hon
            have HX := Lib.hid hx
            have HI := Lib.hid (hon.own HI.out (by first | exact fun e => (own_blk_ne HI.out HZ.out (by decide)) e.symm))
            have HA := Lib.hid (hon.own HA.out (fun e => (own_blk_ne HA.out HZ.out (by decide)) e.symm))
            have HB := Lib.hid (hon.below HB.out hzg)
            refine ⟨HS.out _ HB.out, ?_⟩
            clear hx hon
            try simp only [Act.put]
            refine wpAnyH_done (by kernel_rfl) ?_ _
            go_wp2_with fail
            go_meet
            exact ⟨_, _, _, rfl, HX.out, HI.out, HA.out, hzg, HB.out⟩
      · refine op_lit1 7 (some 24) 28 39 (.tmp 23) _ _ _ _ (by rfl) rfl Try.underlying28 (by kernel_rfl) ?_
        intro wq hx hb
        have HLt := Lib.hid hx
        have HBn := HB.out.trans (hb.mono HB.out.size)
        try have HI := Lib.hid (own_below HI.out hb (Nat.le_refl _))
        try have H5 := Lib.hid (own_below H5.out hb (Nat.le_refl _))
        try have HA := Lib.hid (own_below HA.out hb (Nat.le_refl _))
        try have HZ := Lib.hid (HZ.out.below hb HZ.out.lt)
        have HB := Lib.hid HBn
        clear HBn
        refine ⟨HS.out _ HB.out, ?_⟩
        clear hx hb
        try simp only [Act.put, List.setIfInBounds_toArray, List.set_cons_zero, List.set_cons_succ]
        refine held_two 2 12 (by kernel_rfl) ?_ ?_
        · refine op_call 2 (some 19) 51 [(.tmp 18)] #[25] #[.slice A1 n1 c1] (by rfl) (by rfl) Try.func51 (by rfl) (by rfl) ?_
          refine (clone_i A1 n1 c1 wb.heap.size runs _ (HR1b.out.below HB.out) (by omega) HB.out.size).mono ?_
          rintro e wq ⟨v2, rfl, ho, hb⟩
          obtain ⟨A2, c2, rfl, _⟩ := own_open ho
          have HI := Lib.hid (show OwnI wq wb.heap.size (.slice A2 runs.length c2) runs from ho.mono HB.out.size)
          have HBn := HB.out.trans (hb.mono HB.out.size)
          try have H5 := Lib.hid (own_below H5.out hb (Nat.le_refl _))
          try have HA := Lib.hid (own_below HA.out hb (Nat.le_refl _))
          try have HLt := Lib.hid (HLt.out.below hb HLt.out.lt)
          try have HZ := Lib.hid (HZ.out.below hb HZ.out.lt)
          have HB := Lib.hid HBn
          clear HBn
          refine ⟨_, rfl, HS.out _ HB.out, ?_⟩
          clear ho hb
          try simp only [Act.put, List.setIfInBounds_toArray, List.set_cons_zero, List.set_cons_succ]
          refine held_two 5 12 (by kernel_rfl) ?_ ?_
          · refine op_call 5 (some 22) 52 [(.tmp 21)] #[28] #[.slice A n c] (by rfl) (by rfl) Try.func52 (by rfl) (by rfl) ?_
            refine (clone_s A n c wb.heap.size sw _ (HRb.out.below HB.out) HL.out (by omega) HB.out.size).mono ?_
            rintro e wq ⟨v5, rfl, ho, hb⟩
            have H5 := Lib.hid (show OwnS wq wb.heap.size v5 n sw from own_mono ho HB.out.size)
            have HBn := HB.out.trans (hb.mono HB.out.size)
            try have HI := Lib.hid (own_below HI.out hb (Nat.le_refl _))
            try have HA := Lib.hid (own_below HA.out hb (Nat.le_refl _))
            try have HLt := Lib.hid (HLt.out.below hb HLt.out.lt)
            try have HZ := Lib.hid (HZ.out.below hb HZ.out.lt)
            have HB := Lib.hid HBn
            clear HBn
            refine ⟨_, rfl, HS.out _ HB.out, ?_⟩
            clear ho hb
            try simp only [Act.put, List.setIfInBounds_toArray, List.set_cons_zero, List.set_cons_succ]
            refine held_two 8 12 (by kernel_rfl) ?_ ?_
            · refine op_app ei_sw 8 (some 25) (.tmp 22) (.tmp 24) (by rfl) wb.heap.size _ n (sw.map Sw.cells).flatten rfl H5.out _ _ 1 1 [.int .i64 run, .int .i64 byy, .int .i64 att, .int .i64 fnd] rfl (reads_blk HLt.out (n := 1) (s := 4) rfl) (by simp [Value.oneCell']) (by simp only [maxLen]; omega) (by omega) HB.out.size ?_
              intro v8 wq ho hg hb _
              obtain ⟨A8, c8, rfl, _⟩ := own_open ho
              have HA : Hid (OwnS wq wb.heap.size (.slice A8 (n + 1) c8) (n + 1) swq) := hide (by show World.ownsRow _ _ _ _ _ _ _; rw [HFl.out, List.flatten_append]; simpa using ho)
              try have HI := Lib.hid (HI.out.kept hg (own_ne HI.out H5.out (by decide)))
              try have HZ := Lib.hid (HZ.out.grown hg (own_blk_ne H5.out HZ.out (by decide)))
              have HB := Lib.hid (HB.out.trans hb)
              refine ⟨HS.out _ HB.out, ?_⟩
              clear ho hg hb
              try simp only [Act.put, List.setIfInBounds_toArray, List.set_cons_zero, List.set_cons_succ]
              refine held_build 11 (some 28) 30 #[(0, .tmp 19), (1, .tmp 25), (2, .tmp 27)] [(0, .slice A2 runs.length c2), (1, .slice A8 (n + 1) c8), (2, .int .i64 bg)] #[.slice A2 runs.length c2, .slice A8 (n + 1) c8, .int .i64 bg] (by rfl) (by kernel_rfl) (by kernel_rfl) (by kernel_rfl) (fun _ _ _ h => h) (by first | (simp [Act.eval]; done) | go_simp) (by kernel_rfl) (HS.out _ HB.out) ?_
              try simp only [Act.put, List.setIfInBounds_toArray, List.set_cons_zero, List.set_cons_succ]
              refine held_one 12 (by kernel_rfl) ?_
              refine op_alloc 12 (some 10) 30 #[.slice none 0 0, .slice none 0 0, .int .i64 0] (by rfl) (by kernel_rfl) ?_
              intro wq hx hb
              have hzg := HB.out.size
              have HZ := Lib.hid hx
              have HBn := HB.out.trans (hb.mono HB.out.size)
              try have HI := Lib.hid (own_below HI.out hb (Nat.le_refl _))
              try have H5 := Lib.hid (own_below H5.out hb (Nat.le_refl _))
              try have HA := Lib.hid (own_below HA.out hb (Nat.le_refl _))
              try have HLt := Lib.hid (HLt.out.below hb HLt.out.lt)
              have HB := Lib.hid HBn
              clear HBn
              refine ⟨HS.out _ HB.out, ?_⟩
              clear hx hb
              try simp only [Act.put, List.setIfInBounds_toArray, List.set_cons_zero, List.set_cons_succ]
              refine held_one 13 (by kernel_rfl) ?_
              refine op_store_blk 13 30 (.tmp 10) (.tmp 28) (by rfl) _ #[.slice A2 runs.length c2, .slice A8 (n + 1) c8, .int .i64 bg] rfl rfl _ _ HZ.out (by kernel_rfl) rfl (by simp [Value.oneCell']) ?_
              intro wq hx hon
              have HX := Lib.hid hx
              have HI := Lib.hid (hon.own HI.out (by first | exact fun e => (own_blk_ne HI.out HZ.out (by decide)) e.symm))
              have HA := Lib.hid (hon.own HA.out (fun e => (own_blk_ne HA.out HZ.out (by decide)) e.symm))
              have HB := Lib.hid (hon.below HB.out hzg)
              refine ⟨HS.out _ HB.out, ?_⟩
              clear hx hon
              try simp only [Act.put]
              refine wpAnyH_done (by kernel_rfl) ?_ _
              go_wp2_with fail
              go_meet
              exact ⟨_, _, _, rfl, HX.out, HI.out, HA.out, hzg, HB.out⟩
            · refine op_alloc 12 (some 10) 30 #[.slice none 0 0, .slice none 0 0, .int .i64 0] (by rfl) (by kernel_rfl) ?_
              intro wq hx hb
              have hzg := HB.out.size
              have HZ := Lib.hid hx
              have HBn := HB.out.trans (hb.mono HB.out.size)
              try have HI := Lib.hid (own_below HI.out hb (Nat.le_refl _))
              try have H5 := Lib.hid (own_below H5.out hb (Nat.le_refl _))
              try have HA := Lib.hid (own_below HA.out hb (Nat.le_refl _))
              try have HLt := Lib.hid (HLt.out.below hb HLt.out.lt)
              have HB := Lib.hid HBn
              clear HBn
              refine ⟨HS.out _ HB.out, ?_⟩
              clear hx hb
              try simp only [Act.put, List.setIfInBounds_toArray, List.set_cons_zero, List.set_cons_succ]
              refine held_one 8 (by kernel_rfl) ?_
              refine op_app ei_sw 8 (some 25) (.tmp 22) (.tmp 24) (by rfl) wb.heap.size _ n (sw.map Sw.cells).flatten rfl H5.out _ _ 1 1 [.int .i64 run, .int .i64 byy, .int .i64 att, .int .i64 fnd] rfl (reads_blk HLt.out (n := 1) (s := 4) rfl) (by simp [Value.oneCell']) (by simp only [maxLen]; omega) (by omega) HB.out.size ?_
              intro v8 wq ho hg hb _
              obtain ⟨A8, c8, rfl, _⟩ := own_open ho
              have HA : Hid (OwnS wq wb.heap.size (.slice A8 (n + 1) c8) (n + 1) swq) := hide (by show World.ownsRow _ _ _ _ _ _ _; rw [HFl.out, List.flatten_append]; simpa using ho)
              try have HI := Lib.hid (HI.out.kept hg (own_ne HI.out H5.out (by decide)))
              try have HZ := Lib.hid (HZ.out.grown hg (own_blk_ne H5.out HZ.out (by decide)))
              have HB := Lib.hid (HB.out.trans hb)
              refine ⟨HS.out _ HB.out, ?_⟩
              clear ho hg hb
              try simp only [Act.put, List.setIfInBounds_toArray, List.set_cons_zero, List.set_cons_succ]
              refine held_build 11 (some 28) 30 #[(0, .tmp 19), (1, .tmp 25), (2, .tmp 27)] [(0, .slice A2 runs.length c2), (1, .slice A8 (n + 1) c8), (2, .int .i64 bg)] #[.slice A2 runs.length c2, .slice A8 (n + 1) c8, .int .i64 bg] (by rfl) (by kernel_rfl) (by kernel_rfl) (by kernel_rfl) (fun _ _ _ h => h) (by first | (simp [Act.eval]; done) | go_simp) (by kernel_rfl) (HS.out _ HB.out) ?_
              try simp only [Act.put, List.setIfInBounds_toArray, List.set_cons_zero, List.set_cons_succ]
              refine held_one 13 (by kernel_rfl) ?_
              refine op_store_blk 13 30 (.tmp 10) (.tmp 28) (by rfl) _ #[.slice A2 runs.length c2, .slice A8 (n + 1) c8, .int .i64 bg] rfl rfl _ _ HZ.out (by kernel_rfl) rfl (by simp [Value.oneCell']) ?_
              intro wq hx hon
              have HX := Lib.hid hx
              have HI := Lib.hid (hon.own HI.out (by first | exact fun e => (own_blk_ne HI.out HZ.out (by decide)) e.symm))
              have HA := Lib.hid (hon.own HA.out (fun e => (own_blk_ne HA.out HZ.out (by decide)) e.symm))
              have HB := Lib.hid (hon.below HB.out hzg)
              refine ⟨HS.out _ HB.out, ?_⟩
              clear hx hon
              try simp only [Act.put]
              refine wpAnyH_done (by kernel_rfl) ?_ _
              go_wp2_with fail
              go_meet
              exact ⟨_, _, _, rfl, HX.out, HI.out, HA.out, hzg, HB.out⟩
          · refine op_alloc 12 (some 10) 30 #[.slice none 0 0, .slice none 0 0, .int .i64 0] (by rfl) (by kernel_rfl) ?_
            intro wq hx hb
            have hzg := HB.out.size
            have HZ := Lib.hid hx
            have HBn := HB.out.trans (hb.mono HB.out.size)
            try have HI := Lib.hid (own_below HI.out hb (Nat.le_refl _))
            try have H5 := Lib.hid (own_below H5.out hb (Nat.le_refl _))
            try have HA := Lib.hid (own_below HA.out hb (Nat.le_refl _))
            try have HLt := Lib.hid (HLt.out.below hb HLt.out.lt)
            have HB := Lib.hid HBn
            clear HBn
            refine ⟨HS.out _ HB.out, ?_⟩
            clear hx hb
            try simp only [Act.put, List.setIfInBounds_toArray, List.set_cons_zero, List.set_cons_succ]
            refine held_one 5 (by kernel_rfl) ?_
            refine op_call 5 (some 22) 52 [(.tmp 21)] #[28] #[.slice A n c] (by rfl) (by rfl) Try.func52 (by rfl) (by rfl) ?_
            refine (clone_s A n c wb.heap.size sw _ (HRb.out.below HB.out) HL.out (by omega) HB.out.size).mono ?_
            rintro e wq ⟨v5, rfl, ho, hb⟩
            have H5 := Lib.hid (show OwnS wq wb.heap.size v5 n sw from own_mono ho HB.out.size)
            have HBn := HB.out.trans (hb.mono HB.out.size)
            try have HI := Lib.hid (own_below HI.out hb (Nat.le_refl _))
            try have HA := Lib.hid (own_below HA.out hb (Nat.le_refl _))
            try have HLt := Lib.hid (HLt.out.below hb HLt.out.lt)
            try have HZ := Lib.hid (HZ.out.below hb HZ.out.lt)
            have HB := Lib.hid HBn
            clear HBn
            refine ⟨_, rfl, HS.out _ HB.out, ?_⟩
            clear ho hb
            try simp only [Act.put, List.setIfInBounds_toArray, List.set_cons_zero, List.set_cons_succ]
            refine held_one 8 (by kernel_rfl) ?_
            refine op_app ei_sw 8 (some 25) (.tmp 22) (.tmp 24) (by rfl) wb.heap.size _ n (sw.map Sw.cells).flatten rfl H5.out _ _ 1 1 [.int .i64 run, .int .i64 byy, .int .i64 att, .int .i64 fnd] rfl (reads_blk HLt.out (n := 1) (s := 4) rfl) (by simp [Value.oneCell']) (by simp only [maxLen]; omega) (by omega) HB.out.size ?_
            intro v8 wq ho hg hb _
            obtain ⟨A8, c8, rfl, _⟩ := own_open ho
            have HA : Hid (OwnS wq wb.heap.size (.slice A8 (n + 1) c8) (n + 1) swq) := hide (by show World.ownsRow _ _ _ _ _ _ _; rw [HFl.out, List.flatten_append]; simpa using ho)
            try have HI := Lib.hid (HI.out.kept hg (own_ne HI.out H5.out (by decide)))
            try have HZ := Lib.hid (HZ.out.grown hg (own_blk_ne H5.out HZ.out (by decide)))
            have HB := Lib.hid (HB.out.trans hb)
            refine ⟨HS.out _ HB.out, ?_⟩
            clear ho hg hb
            try simp only [Act.put, List.setIfInBounds_toArray, List.set_cons_zero, List.set_cons_succ]
            refine held_build 11 (some 28) 30 #[(0, .tmp 19), (1, .tmp 25), (2, .tmp 27)] [(0, .slice A2 runs.length c2), (1, .slice A8 (n + 1) c8), (2, .int .i64 bg)] #[.slice A2 runs.length c2, .slice A8 (n + 1) c8, .int .i64 bg] (by rfl) (by kernel_rfl) (by kernel_rfl) (by kernel_rfl) (fun _ _ _ h => h) (by first | (simp [Act.eval]; done) | go_simp) (by kernel_rfl) (HS.out _ HB.out) ?_
            try simp only [Act.put, List.setIfInBounds_toArray, List.set_cons_zero, List.set_cons_succ]
            refine held_one 13 (by kernel_rfl) ?_
            refine op_store_blk 13 30 (.tmp 10) (.tmp 28) (by rfl) _ #[.slice A2 runs.length c2, .slice A8 (n + 1) c8, .int .i64 bg] rfl rfl _ _ HZ.out (by kernel_rfl) rfl (by simp [Value.oneCell']) ?_
            intro wq hx hon
            have HX := Lib.hid hx
            have HI := Lib.hid (hon.own HI.out (by first | exact fun e => (own_blk_ne HI.out HZ.out (by decide)) e.symm))
            have HA := Lib.hid (hon.own HA.out (fun e => (own_blk_ne HA.out HZ.out (by decide)) e.symm))
            have HB := Lib.hid (hon.below HB.out hzg)
            refine ⟨HS.out _ HB.out, ?_⟩
            clear hx hon
            try simp only [Act.put]
            refine wpAnyH_done (by kernel_rfl) ?_ _
            go_wp2_with fail
            go_meet
            exact ⟨_, _, _, rfl, HX.out, HI.out, HA.out, hzg, HB.out⟩
        · refine op_alloc 12 (some 10) 30 #[.slice none 0 0, .slice none 0 0, .int .i64 0] (by rfl) (by kernel_rfl) ?_
          intro wq hx hb
          have hzg := HB.out.size
          have HZ := Lib.hid hx
          have HBn := HB.out.trans (hb.mono HB.out.size)
          try have HI := Lib.hid (own_below HI.out hb (Nat.le_refl _))
          try have H5 := Lib.hid (own_below H5.out hb (Nat.le_refl _))
          try have HA := Lib.hid (own_below HA.out hb (Nat.le_refl _))
          try have HLt := Lib.hid (HLt.out.below hb HLt.out.lt)
          have HB := Lib.hid HBn
          clear HBn
          refine ⟨HS.out _ HB.out, ?_⟩
          clear hx hb
          try simp only [Act.put, List.setIfInBounds_toArray, List.set_cons_zero, List.set_cons_succ]
          refine held_one 2 (by kernel_rfl) ?_
          refine op_call 2 (some 19) 51 [(.tmp 18)] #[25] #[.slice A1 n1 c1] (by rfl) (by rfl) Try.func51 (by rfl) (by rfl) ?_
          refine (clone_i A1 n1 c1 wb.heap.size runs _ (HR1b.out.below HB.out) (by omega) HB.out.size).mono ?_
          rintro e wq ⟨v2, rfl, ho, hb⟩
          obtain ⟨A2, c2, rfl, _⟩ := own_open ho
          have HI := Lib.hid (show OwnI wq wb.heap.size (.slice A2 runs.length c2) runs from ho.mono HB.out.size)
          have HBn := HB.out.trans (hb.mono HB.out.size)
          try have H5 := Lib.hid (own_below H5.out hb (Nat.le_refl _))
          try have HA := Lib.hid (own_below HA.out hb (Nat.le_refl _))
          try have HLt := Lib.hid (HLt.out.below hb HLt.out.lt)
          try have HZ := Lib.hid (HZ.out.below hb HZ.out.lt)
          have HB := Lib.hid HBn
          clear HBn
          refine ⟨_, rfl, HS.out _ HB.out, ?_⟩
          clear ho hb
          try simp only [Act.put, List.setIfInBounds_toArray, List.set_cons_zero, List.set_cons_succ]
          refine held_one 5 (by kernel_rfl) ?_
          refine op_call 5 (some 22) 52 [(.tmp 21)] #[28] #[.slice A n c] (by rfl) (by rfl) Try.func52 (by rfl) (by rfl) ?_
          refine (clone_s A n c wb.heap.size sw _ (HRb.out.below HB.out) HL.out (by omega) HB.out.size).mono ?_
          rintro e wq ⟨v5, rfl, ho, hb⟩
          have H5 := Lib.hid (show OwnS wq wb.heap.size v5 n sw from own_mono ho HB.out.size)
          have HBn := HB.out.trans (hb.mono HB.out.size)
          try have HI := Lib.hid (own_below HI.out hb (Nat.le_refl _))
          try have HA := Lib.hid (own_below HA.out hb (Nat.le_refl _))
          try have HLt := Lib.hid (HLt.out.below hb HLt.out.lt)
          try have HZ := Lib.hid (HZ.out.below hb HZ.out.lt)
          have HB := Lib.hid HBn
          clear HBn
          refine ⟨_, rfl, HS.out _ HB.out, ?_⟩
          clear ho hb
          try simp only [Act.put, List.setIfInBounds_toArray, List.set_cons_zero, List.set_cons_succ]
          refine held_one 8 (by kernel_rfl) ?_
          refine op_app ei_sw 8 (some 25) (.tmp 22) (.tmp 24) (by rfl) wb.heap.size _ n (sw.map Sw.cells).flatten rfl H5.out _ _ 1 1 [.int .i64 run, .int .i64 byy, .int .i64 att, .int .i64 fnd] rfl (reads_blk HLt.out (n := 1) (s := 4) rfl) (by simp [Value.oneCell']) (by simp only [maxLen]; omega) (by omega) HB.out.size ?_
          intro v8 wq ho hg hb _
          obtain ⟨A8, c8, rfl, _⟩ := own_open ho
          have HA : Hid (OwnS wq wb.heap.size (.slice A8 (n + 1) c8) (n + 1) swq) := hide (by show World.ownsRow _ _ _ _ _ _ _; rw [HFl.out, List.flatten_append]; simpa using ho)
          try have HI := Lib.hid (HI.out.kept hg (own_ne HI.out H5.out (by decide)))
          try have HZ := Lib.hid (HZ.out.grown hg (own_blk_ne H5.out HZ.out (by decide)))
          have HB := Lib.hid (HB.out.trans hb)
          refine ⟨HS.out _ HB.out, ?_⟩
          clear ho hg hb
          try simp only [Act.put, List.setIfInBounds_toArray, List.set_cons_zero, List.set_cons_succ]
          refine held_build 11 (some 28) 30 #[(0, .tmp 19), (1, .tmp 25), (2, .tmp 27)] [(0, .slice A2 runs.length c2), (1, .slice A8 (n + 1) c8), (2, .int .i64 bg)] #[.slice A2 runs.length c2, .slice A8 (n + 1) c8, .int .i64 bg] (by rfl) (by kernel_rfl) (by kernel_rfl) (by kernel_rfl) (fun _ _ _ h => h) (by first | (simp [Act.eval]; done) | go_simp) (by kernel_rfl) (HS.out _ HB.out) ?_
          try simp only [Act.put, List.setIfInBounds_toArray, List.set_cons_zero, List.set_cons_succ]
          refine held_one 13 (by kernel_rfl) ?_
          refine op_store_blk 13 30 (.tmp 10) (.tmp 28) (by rfl) _ #[.slice A2 runs.length c2, .slice A8 (n + 1) c8, .int .i64 bg] rfl rfl _ _ HZ.out (by kernel_rfl) rfl (by simp [Value.oneCell']) ?_
          intro wq hx hon
          have HX := Lib.hid hx
          have HI := Lib.hid (hon.own HI.out (by first | exact fun e => (own_blk_ne HI.out HZ.out (by decide)) e.symm))
          have HA := Lib.hid (hon.own HA.out (fun e => (own_blk_ne HA.out HZ.out (by decide)) e.symm))
          have HB := Lib.hid (hon.below HB.out hzg)
          refine ⟨HS.out _ HB.out, ?_⟩
          clear hx hon
          try simp only [Act.put]
          refine wpAnyH_done (by kernel_rfl) ?_ _
          go_wp2_with fail
          go_meet
          exact ⟨_, _, _, rfl, HX.out, HI.out, HA.out, hzg, HB.out⟩
      · refine op_alloc 12 (some 10) 30 #[.slice none 0 0, .slice none 0 0, .int .i64 0] (by rfl) (by kernel_rfl) ?_
        intro wq hx hb
        have hzg := HB.out.size
        have HZ := Lib.hid hx
        have HBn := HB.out.trans (hb.mono HB.out.size)
        try have HI := Lib.hid (own_below HI.out hb (Nat.le_refl _))
        try have H5 := Lib.hid (own_below H5.out hb (Nat.le_refl _))
        try have HA := Lib.hid (own_below HA.out hb (Nat.le_refl _))
        try have HLt := Lib.hid (HLt.out.below hb HLt.out.lt)
        have HB := Lib.hid HBn
        clear HBn
        refine ⟨HS.out _ HB.out, ?_⟩
        clear hx hb
        try simp only [Act.put, List.setIfInBounds_toArray, List.set_cons_zero, List.set_cons_succ]
        refine held_two 2 7 (by kernel_rfl) ?_ ?_
        · refine op_call 2 (some 19) 51 [(.tmp 18)] #[25] #[.slice A1 n1 c1] (by rfl) (by rfl) Try.func51 (by rfl) (by rfl) ?_
          refine (clone_i A1 n1 c1 wb.heap.size runs _ (HR1b.out.below HB.out) (by omega) HB.out.size).mono ?_
          rintro e wq ⟨v2, rfl, ho, hb⟩
          obtain ⟨A2, c2, rfl, _⟩ := own_open ho
          have HI := Lib.hid (show OwnI wq wb.heap.size (.slice A2 runs.length c2) runs from ho.mono HB.out.size)
          have HBn := HB.out.trans (hb.mono HB.out.size)
          try have H5 := Lib.hid (own_below H5.out hb (Nat.le_refl _))
          try have HA := Lib.hid (own_below HA.out hb (Nat.le_refl _))
          try have HLt := Lib.hid (HLt.out.below hb HLt.out.lt)
          try have HZ := Lib.hid (HZ.out.below hb HZ.out.lt)
          have HB := Lib.hid HBn
          clear HBn
          refine ⟨_, rfl, HS.out _ HB.out, ?_⟩
          clear ho hb
          try simp only [Act.put, List.setIfInBounds_toArray, List.set_cons_zero, List.set_cons_succ]
          refine held_two 5 7 (by kernel_rfl) ?_ ?_
          · refine op_call 5 (some 22) 52 [(.tmp 21)] #[28] #[.slice A n c] (by rfl) (by rfl) Try.func52 (by rfl) (by rfl) ?_
            refine (clone_s A n c wb.heap.size sw _ (HRb.out.below HB.out) HL.out (by omega) HB.out.size).mono ?_
            rintro e wq ⟨v5, rfl, ho, hb⟩
            have H5 := Lib.hid (show OwnS wq wb.heap.size v5 n sw from own_mono ho HB.out.size)
            have HBn := HB.out.trans (hb.mono HB.out.size)
            try have HI := Lib.hid (own_below HI.out hb (Nat.le_refl _))
            try have HA := Lib.hid (own_below HA.out hb (Nat.le_refl _))
            try have HLt := Lib.hid (HLt.out.below hb HLt.out.lt)
            try have HZ := Lib.hid (HZ.out.below hb HZ.out.lt)
            have HB := Lib.hid HBn
            clear HBn
            refine ⟨_, rfl, HS.out _ HB.out, ?_⟩
            clear ho hb
            try simp only [Act.put, List.setIfInBounds_toArray, List.set_cons_zero, List.set_cons_succ]
            refine held_one 7 (by kernel_rfl) ?_
            refine op_lit1 7 (some 24) 28 39 (.tmp 23) _ _ _ _ (by rfl) rfl Try.underlying28 (by kernel_rfl) ?_
            intro wq hx hb
            have HLt := Lib.hid hx
            have HBn := HB.out.trans (hb.mono HB.out.size)
            try have HI := Lib.hid (own_below HI.out hb (Nat.le_refl _))
            try have H5 := Lib.hid (own_below H5.out hb (Nat.le_refl _))
            try have HA := Lib.hid (own_below HA.out hb (Nat.le_refl _))
            try have HZ := Lib.hid (HZ.out.below hb HZ.out.lt)
            have HB := Lib.hid HBn
            clear HBn
            refine ⟨HS.out _ HB.out, ?_⟩
            clear hx hb
            try simp only [Act.put, List.setIfInBounds_toArray, List.set_cons_zero, List.set_cons_succ]
            refine held_one 8 (by kernel_rfl) ?_
            refine op_app ei_sw 8 (some 25) (.tmp 22) (.tmp 24) (by rfl) wb.heap.size _ n (sw.map Sw.cells).flatten rfl H5.out _ _ 1 1 [.int .i64 run, .int .i64 byy, .int .i64 att, .int .i64 fnd] rfl (reads_blk HLt.out (n := 1) (s := 4) rfl) (by simp [Value.oneCell']) (by simp only [maxLen]; omega) (by omega) HB.out.size ?_
            intro v8 wq ho hg hb _
            obtain ⟨A8, c8, rfl, _⟩ := own_open ho
            have HA : Hid (OwnS wq wb.heap.size (.slice A8 (n + 1) c8) (n + 1) swq) := hide (by show World.ownsRow _ _ _ _ _ _ _; rw [HFl.out, List.flatten_append]; simpa using ho)
            try have HI := Lib.hid (HI.out.kept hg (own_ne HI.out H5.out (by decide)))
            try have HZ := Lib.hid (HZ.out.grown hg (own_blk_ne H5.out HZ.out (by decide)))
            have HB := Lib.hid (HB.out.trans hb)
            refine ⟨HS.out _ HB.out, ?_⟩
            clear ho hg hb
            try simp only [Act.put, List.setIfInBounds_toArray, List.set_cons_zero, List.set_cons_succ]
            refine held_build 11 (some 28) 30 #[(0, .tmp 19), (1, .tmp 25), (2, .tmp 27)] [(0, .slice A2 runs.length c2), (1, .slice A8 (n + 1) c8), (2, .int .i64 bg)] #[.slice A2 runs.length c2, .slice A8 (n + 1) c8, .int .i64 bg] (by rfl) (by kernel_rfl) (by kernel_rfl) (by kernel_rfl) (fun _ _ _ h => h) (by first | (simp [Act.eval]; done) | go_simp) (by kernel_rfl) (HS.out _ HB.out) ?_
            try simp only [Act.put, List.setIfInBounds_toArray, List.set_cons_zero, List.set_cons_succ]
            refine held_one 13 (by kernel_rfl) ?_
            refine op_store_blk 13 30 (.tmp 10) (.tmp 28) (by rfl) _ #[.slice A2 runs.length c2, .slice A8 (n + 1) c8, .int .i64 bg] rfl rfl _ _ HZ.out (by kernel_rfl) rfl (by simp [Value.oneCell']) ?_
            intro wq hx hon
            have HX := Lib.hid hx
            have HI := Lib.hid (hon.own HI.out (by first | exact fun e => (own_blk_ne HI.out HZ.out (by decide)) e.symm))
            have HA := Lib.hid (hon.own HA.out (fun e => (own_blk_ne HA.out HZ.out (by decide)) e.symm))
            have HB := Lib.hid (hon.below HB.out hzg)
            refine ⟨HS.out _ HB.out, ?_⟩
            clear hx hon
            try simp only [Act.put]
            refine wpAnyH_done (by kernel_rfl) ?_ _
            go_wp2_with fail
            go_meet
            exact ⟨_, _, _, rfl, HX.out, HI.out, HA.out, hzg, HB.out⟩
          · refine op_lit1 7 (some 24) 28 39 (.tmp 23) _ _ _ _ (by rfl) rfl Try.underlying28 (by kernel_rfl) ?_
            intro wq hx hb
            have HLt := Lib.hid hx
            have HBn := HB.out.trans (hb.mono HB.out.size)
            try have HI := Lib.hid (own_below HI.out hb (Nat.le_refl _))
            try have H5 := Lib.hid (own_below H5.out hb (Nat.le_refl _))
            try have HA := Lib.hid (own_below HA.out hb (Nat.le_refl _))
            try have HZ := Lib.hid (HZ.out.below hb HZ.out.lt)
            have HB := Lib.hid HBn
            clear HBn
            refine ⟨HS.out _ HB.out, ?_⟩
            clear hx hb
            try simp only [Act.put, List.setIfInBounds_toArray, List.set_cons_zero, List.set_cons_succ]
            refine held_one 5 (by kernel_rfl) ?_
            refine op_call 5 (some 22) 52 [(.tmp 21)] #[28] #[.slice A n c] (by rfl) (by rfl) Try.func52 (by rfl) (by rfl) ?_
            refine (clone_s A n c wb.heap.size sw _ (HRb.out.below HB.out) HL.out (by omega) HB.out.size).mono ?_
            rintro e wq ⟨v5, rfl, ho, hb⟩
            have H5 := Lib.hid (show OwnS wq wb.heap.size v5 n sw from own_mono ho HB.out.size)
            have HBn := HB.out.trans (hb.mono HB.out.size)
            try have HI := Lib.hid (own_below HI.out hb (Nat.le_refl _))
            try have HA := Lib.hid (own_below HA.out hb (Nat.le_refl _))
            try have HLt := Lib.hid (HLt.out.below hb HLt.out.lt)
            try have HZ := Lib.hid (HZ.out.below hb HZ.out.lt)
            have HB := Lib.hid HBn
            clear HBn
            refine ⟨_, rfl, HS.out _ HB.out, ?_⟩
            clear ho hb
            try simp only [Act.put, List.setIfInBounds_toArray, List.set_cons_zero, List.set_cons_succ]
            refine held_one 8 (by kernel_rfl) ?_
            refine op_app ei_sw 8 (some 25) (.tmp 22) (.tmp 24) (by rfl) wb.heap.size _ n (sw.map Sw.cells).flatten rfl H5.out _ _ 1 1 [.int .i64 run, .int .i64 byy, .int .i64 att, .int .i64 fnd] rfl (reads_blk HLt.out (n := 1) (s := 4) rfl) (by simp [Value.oneCell']) (by simp only [maxLen]; omega) (by omega) HB.out.size ?_
            intro v8 wq ho hg hb _
            obtain ⟨A8, c8, rfl, _⟩ := own_open ho
            have HA : Hid (OwnS wq wb.heap.size (.slice A8 (n + 1) c8) (n + 1) swq) := hide (by show World.ownsRow _ _ _ _ _ _ _; rw [HFl.out, List.flatten_append]; simpa using ho)
            try have HI := Lib.hid (HI.out.kept hg (own_ne HI.out H5.out (by decide)))
            try have HZ := Lib.hid (HZ.out.grown hg (own_blk_ne H5.out HZ.out (by decide)))
            have HB := Lib.hid (HB.out.trans hb)
            refine ⟨HS.out _ HB.out, ?_⟩
            clear ho hg hb
            try simp only [Act.put, List.setIfInBounds_toArray, List.set_cons_zero, List.set_cons_succ]
            refine held_build 11 (some 28) 30 #[(0, .tmp 19), (1, .tmp 25), (2, .tmp 27)] [(0, .slice A2 runs.length c2), (1, .slice A8 (n + 1) c8), (2, .int .i64 bg)] #[.slice A2 runs.length c2, .slice A8 (n + 1) c8, .int .i64 bg] (by rfl) (by kernel_rfl) (by kernel_rfl) (by kernel_rfl) (fun _ _ _ h => h) (by first | (simp [Act.eval]; done) | go_simp) (by kernel_rfl) (HS.out _ HB.out) ?_
            try simp only [Act.put, List.setIfInBounds_toArray, List.set_cons_zero, List.set_cons_succ]
            refine held_one 13 (by kernel_rfl) ?_
            refine op_store_blk 13 30 (.tmp 10) (.tmp 28) (by rfl) _ #[.slice A2 runs.length c2, .slice A8 (n + 1) c8, .int .i64 bg] rfl rfl _ _ HZ.out (by kernel_rfl) rfl (by simp [Value.oneCell']) ?_
            intro wq hx hon
            have HX := Lib.hid hx
            have HI := Lib.hid (hon.own HI.out (by first | exact fun e => (own_blk_ne HI.out HZ.out (by decide)) e.symm))
            have HA := Lib.hid (hon.own HA.out (fun e => (own_blk_ne HA.out HZ.out (by decide)) e.symm))
            have HB := Lib.hid (hon.below HB.out hzg)
            refine ⟨HS.out _ HB.out, ?_⟩
            clear hx hon
            try simp only [Act.put]
            refine wpAnyH_done (by kernel_rfl) ?_ _
            go_wp2_with fail
            go_meet
            exact ⟨_, _, _, rfl, HX.out, HI.out, HA.out, hzg, HB.out⟩
        · refine op_lit1 7 (some 24) 28 39 (.tmp 23) _ _ _ _ (by rfl) rfl Try.underlying28 (by kernel_rfl) ?_
          intro wq hx hb
          have HLt := Lib.hid hx
          have HBn := HB.out.trans (hb.mono HB.out.size)
          try have HI := Lib.hid (own_below HI.out hb (Nat.le_refl _))
          try have H5 := Lib.hid (own_below H5.out hb (Nat.le_refl _))
          try have HA := Lib.hid (own_below HA.out hb (Nat.le_refl _))
          try have HZ := Lib.hid (HZ.out.below hb HZ.out.lt)
          have HB := Lib.hid HBn
          clear HBn
          refine ⟨HS.out _ HB.out, ?_⟩
          clear hx hb
          try simp only [Act.put, List.setIfInBounds_toArray, List.set_cons_zero, List.set_cons_succ]
          refine held_one 2 (by kernel_rfl) ?_
          refine op_call 2 (some 19) 51 [(.tmp 18)] #[25] #[.slice A1 n1 c1] (by rfl) (by rfl) Try.func51 (by rfl) (by rfl) ?_
          refine (clone_i A1 n1 c1 wb.heap.size runs _ (HR1b.out.below HB.out) (by omega) HB.out.size).mono ?_
          rintro e wq ⟨v2, rfl, ho, hb⟩
          obtain ⟨A2, c2, rfl, _⟩ := own_open ho
          have HI := Lib.hid (show OwnI wq wb.heap.size (.slice A2 runs.length c2) runs from ho.mono HB.out.size)
          have HBn := HB.out.trans (hb.mono HB.out.size)
          try have H5 := Lib.hid (own_below H5.out hb (Nat.le_refl _))
          try have HA := Lib.hid (own_below HA.out hb (Nat.le_refl _))
          try have HLt := Lib.hid (HLt.out.below hb HLt.out.lt)
          try have HZ := Lib.hid (HZ.out.below hb HZ.out.lt)
          have HB := Lib.hid HBn
          clear HBn
          refine ⟨_, rfl, HS.out _ HB.out, ?_⟩
          clear ho hb
          try simp only [Act.put, List.setIfInBounds_toArray, List.set_cons_zero, List.set_cons_succ]
          refine held_one 5 (by kernel_rfl) ?_
          refine op_call 5 (some 22) 52 [(.tmp 21)] #[28] #[.slice A n c] (by rfl) (by rfl) Try.func52 (by rfl) (by rfl) ?_
          refine (clone_s A n c wb.heap.size sw _ (HRb.out.below HB.out) HL.out (by omega) HB.out.size).mono ?_
          rintro e wq ⟨v5, rfl, ho, hb⟩
          have H5 := Lib.hid (show OwnS wq wb.heap.size v5 n sw from own_mono ho HB.out.size)
          have HBn := HB.out.trans (hb.mono HB.out.size)
          try have HI := Lib.hid (own_below HI.out hb (Nat.le_refl _))
          try have HA := Lib.hid (own_below HA.out hb (Nat.le_refl _))
          try have HLt := Lib.hid (HLt.out.below hb HLt.out.lt)
          try have HZ := Lib.hid (HZ.out.below hb HZ.out.lt)
          have HB := Lib.hid HBn
          clear HBn
          refine ⟨_, rfl, HS.out _ HB.out, ?_⟩
          clear ho hb
          try simp only [Act.put, List.setIfInBounds_toArray, List.set_cons_zero, List.set_cons_succ]
          refine held_one 8 (by kernel_rfl) ?_
          refine op_app ei_sw 8 (some 25) (.tmp 22) (.tmp 24) (by rfl) wb.heap.size _ n (sw.map Sw.cells).flatten rfl H5.out _ _ 1 1 [.int .i64 run, .int .i64 byy, .int .i64 att, .int .i64 fnd] rfl (reads_blk HLt.out (n := 1) (s := 4) rfl) (by simp [Value.oneCell']) (by simp only [maxLen]; omega) (by omega) HB.out.size ?_
          intro v8 wq ho hg hb _
          obtain ⟨A8, c8, rfl, _⟩ := own_open ho
          have HA : Hid (OwnS wq wb.heap.size (.slice A8 (n + 1) c8) (n + 1) swq) := hide (by show World.ownsRow _ _ _ _ _ _ _; rw [HFl.out, List.flatten_append]; simpa using ho)
          try have HI := Lib.hid (HI.out.kept hg (own_ne HI.out H5.out (by decide)))
          try have HZ := Lib.hid (HZ.out.grown hg (own_blk_ne H5.out HZ.out (by decide)))
          have HB := Lib.hid (HB.out.trans hb)
          refine ⟨HS.out _ HB.out, ?_⟩
          clear ho hg hb
          try simp only [Act.put, List.setIfInBounds_toArray, List.set_cons_zero, List.set_cons_succ]
          refine held_build 11 (some 28) 30 #[(0, .tmp 19), (1, .tmp 25), (2, .tmp 27)] [(0, .slice A2 runs.length c2), (1, .slice A8 (n + 1) c8), (2, .int .i64 bg)] #[.slice A2 runs.length c2, .slice A8 (n + 1) c8, .int .i64 bg] (by rfl) (by kernel_rfl) (by kernel_rfl) (by kernel_rfl) (fun _ _ _ h => h) (by first | (simp [Act.eval]; done) | go_simp) (by kernel_rfl) (HS.out _ HB.out) ?_
          try simp only [Act.put, List.setIfInBounds_toArray, List.set_cons_zero, List.set_cons_succ]
          refine held_one 13 (by kernel_rfl) ?_
          refine op_store_blk 13 30 (.tmp 10) (.tmp 28) (by rfl) _ #[.slice A2 runs.length c2, .slice A8 (n + 1) c8, .int .i64 bg] rfl rfl _ _ HZ.out (by kernel_rfl) rfl (by simp [Value.oneCell']) ?_
          intro wq hx hon
          have HX := Lib.hid hx
          have HI := Lib.hid (hon.own HI.out (by first | exact fun e => (own_blk_ne HI.out HZ.out (by decide)) e.symm))
          have HA := Lib.hid (hon.own HA.out (fun e => (own_blk_ne HA.out HZ.out (by decide)) e.symm))
          have HB := Lib.hid (hon.below HB.out hzg)
          refine ⟨HS.out _ HB.out, ?_⟩
          clear hx hon
          try simp only [Act.put]
          refine wpAnyH_done (by kernel_rfl) ?_ _
          go_wp2_with fail
          go_meet
          exact ⟨_, _, _, rfl, HX.out, HI.out, HA.out, hzg, HB.out⟩
    obtain ⟨g, x, y, rfl, hx, hi, ha, hgb, hcut⟩ := hcut
    have HXc := Lib.hid hx
    have HRxc := Lib.hid hi.rowV
    have HSxc := Lib.hid (OwnS.strV ha HLq.out)
    have HIc := Lib.hid hi
    have HAc := Lib.hid ha
    have h1x := own_one hi
    have h1y := own_one ha
    have hgc := hx.lt
    have HBc := Lib.hid (HBb.out.trans (hcut.mono hszb))
    have HWc := Lib.hid (HWb.out.trans (hcut.mono HWb.out.size))
    have hszc : wb.heap.size ≤ wc.heap.size := Nat.le_trans hszb hcut.size
    have HX0c := Lib.hid (HX0b.out.below hcut (Nat.lt_of_lt_of_le hxx0 hszb))
    have HX1c := Lib.hid (HX1b.out.below hcut (Nat.lt_of_lt_of_le hxx1 hszb))
    have HX2c := Lib.hid (HX2b.out.below hcut (Nat.lt_of_lt_of_le hxx2 hszb))
    have HX3c := Lib.hid (HX3b.out.below hcut (Nat.lt_of_lt_of_le hxx3 hszb))
    have HMc := Lib.hid (HMb.out.now hcut)
    have HR1c := Lib.hid (HR1b.out.now hcut)
    have HRc := Lib.hid (HRb.out.now hcut)
    have HBvc := Lib.hid (HBvb.out.now hcut)
    have HOpc := Lib.hid (HOpb.out.now hcut)
    clear hcut hx hi ha HS
    have hwc : wc = wc := rfl
    go_wp2_with
      (first
       | (refine wpList_load_g 27 (.tmp 4) rfl rfl w.heap.size rfl _ _ HX0c.out _ Try.underlying27 rfl (by kernel_rfl) ?_)
       | (refine wpList_load_g 30 (.tmp 10) rfl rfl g rfl _ _ HXc.out _ Try.underlying30 rfl (by kernel_rfl) ?_))
    with_reducible refine (HCr.out x y _ HMc.out HBvc.out HRxc.out HSxc.out).mono ?_
    rintro e w5 ⟨rfl, hb5⟩
    have HX5 := Lib.hid (HXc.out.below hb5 hgc)
    have HI5 : Hid (OwnI w5 wb.heap.size x runs) := hide (own_below HIc.out hb5 (Nat.le_refl _))
    have HA5 : Hid (OwnS w5 wb.heap.size y (n + 1) swq) := hide (own_below HAc.out hb5 (Nat.le_refl _))
    have HB5 := Lib.hid (HBc.out.trans (hb5.mono hszc))
    have HW5 := Lib.hid (HWc.out.trans (hb5.mono HWc.out.size))
    have hsz5 : wb.heap.size ≤ w5.heap.size := Nat.le_trans hszc hb5.size
    have HX05 := Lib.hid (HX0c.out.below hb5 (Nat.lt_of_lt_of_le hxx0 hszc))
    have HX15 := Lib.hid (HX1c.out.below hb5 (Nat.lt_of_lt_of_le hxx1 hszc))
    have HX25 := Lib.hid (HX2c.out.below hb5 (Nat.lt_of_lt_of_le hxx2 hszc))
    have HX35 := Lib.hid (HX3c.out.below hb5 (Nat.lt_of_lt_of_le hxx3 hszc))
    have HM5 := Lib.hid (HMc.out.now hb5)
    have HR15 := Lib.hid (HR1c.out.now hb5)
    have HR5 := Lib.hid (HRc.out.now hb5)
    have HBv5 := Lib.hid (HBvc.out.now hb5)
    have HOp5 := Lib.hid (HOpc.out.now hb5)
    clear hb5
    by_cases hr0 : r = 0
    rotate_left
    · have d0 : (r == 0) = false := beq_eq_false_iff_ne.2 hr0
      go_wp2_with
        (first
         | (refine wpList_store_blk rfl 30 (.tmp 8) (.tmp 34) rfl (w.heap.size + 1 + 1 + 1) #[.slice none 0 0, .slice none 0 0, .int .i64 0] rfl rfl _ _ HX35.out (by kernel_rfl) rfl (by simp [show (Value.slice none 0 0).oneCell' = true from rfl, show ∀ (x : Int), (Value.int .i64 x).oneCell' = true from fun _ => rfl]) ?_
            intro w6 hx6 hon6
            have HX6 := Lib.hid hx6
            have HW6 := Lib.hid (hon6.below HW5.out (by omega))
            clear hx6 hon6))
      refine bodyPost_ret (results_cell_row_tmp rfl _ _ (w.heap.size + 1 + 1 + 1) 30 _ _ _ rfl rfl HX6.out Try.underlying30 rfl (by kernel_rfl)) rfl ?_
      exact HD2.out _ (by first | rfl | trivial) hr0 HW6.out
    subst hr0
    go_wp2_with
      (first
       | (refine wpList_load_g 30 (.tmp 10) rfl rfl g rfl _ _ HX5.out _ Try.underlying30 rfl (by kernel_rfl) ?_)
       | (refine wpList_store_blk rfl 30 (.tmp 8) (.tmp 36) rfl (w.heap.size + 1 + 1 + 1) #[x, y, .int .i64 bg] rfl rfl _ _ HX35.out (by kernel_rfl) rfl (by simp [h1x, h1y, show ∀ (x : Int), (Value.int .i64 x).oneCell' = true from fun _ => rfl]) ?_
          intro w6 hx6 hon6
          have HX6 := Lib.hid hx6
          have HW6 := Lib.hid (hon6.below HW5.out (by omega))
          have HI6 : Hid (OwnI w6 wb.heap.size x runs) := hide (hon6.own HI5.out (fun e => by have := (World.ownsRow.lt HI5.out _ e).1; omega))
          have HA6 : Hid (OwnS w6 wb.heap.size y (n + 1) swq) := hide (hon6.own HA5.out (fun e => by have := (World.ownsRow.lt HA5.out _ e).1; omega))
          clear hx6 hon6))
    refine bodyPost_ret (results_cell_row_tmp rfl _ _ (w.heap.size + 1 + 1 + 1) 30 _ _ _ rfl rfl HX6.out Try.underlying30 rfl (by kernel_rfl)) rfl ?_
    exact HD3.out _ _ _ (by first | rfl | trivial) (by first | rfl | trivial) HW6.out HI6.out.rowV (OwnS.strV HA6.out HLq.out)
end Go.Proofs.Yticoeibccdplaaa
