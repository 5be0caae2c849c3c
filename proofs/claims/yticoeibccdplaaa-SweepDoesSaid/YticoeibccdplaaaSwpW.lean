/-
  Comparison of lists, precedes, defined, sum, Small, and the reference's Done, of chapter 56, walked.
-/
import Derived.Test.YticoeibccdplaaaSwpV
namespace Go.Proofs.Yticoeibccdplaaa
open Go.RowKit

theorem take_eq_succ (l l' : List Int) (k : Nat) (h : k < l.length) (h' : k < l'.length) (e : l.take k = l'.take k) (e2 : l.getD k 0 = l'.getD k 0) : l.take (k + 1) = l'.take (k + 1) := by
  rw [take_at l k h, take_at l' k h', e, e2]
set_option maxRecDepth 100000 in
set_option maxHeartbeats 4000000 in
theorem same_ints (v v' : Value) (l l' : List Int) (b : Bool) (w : World) (hr : RowV w w.heap.size v l) (hr' : RowV w w.heap.size v' l') (hb : decide (l = l') = b) :
    Calls Try.prog 16 #[v, v'] w fun e w' => e = .returned (.bool b) ∧ Below w.heap.size w w' := by
  obtain ⟨A, n, c, rfl, HL, h1, h2, hr⟩ := hr.nam
  obtain ⟨A', n', c', rfl, HL', h3, h4, hr'⟩ := hr'.nam
  have HR := Lib.hid hr
  have HR' := Lib.hid hr'
  have HB := Lib.hid hb
  have hn : n ≤ maxLen := Nat.le_trans h1 h2
  unfold maxLen at hn
  clear hr hr' hb h1 h2 h3 h4
  by_cases hlen : n = n'
  · subst hlen
    go_enter Try.func16, Try.ntmps16
    go_wp2_with fail
    go_loopw [5] (fun i wr => ∃ k : Nat, k ≤ n ∧ i = .int .i64 k ∧ l.take k = l'.take k ∧ Below w.heap.size w wr) (fun i _ => n - (intOf i).toNat)
    case atStart => exact ⟨0, by omega, rfl, by simp, Below.refl _ _⟩
    case round =>
      obtain ⟨k, hk, rfl, heq, hbr⟩ := hrel
      obtain ⟨wo, rfl⟩ : ∃ wo : World, wo = wr := ⟨_, rfl⟩
      have HE := Lib.hid heq
      have HBo := Lib.hid hbr
      have HRo := Lib.hid (HR.out.now hbr)
      have HRo' := Lib.hid (HR'.out.now hbr)
      clear heq hbr
      by_cases hlt : k < n
      · obtain ⟨ad, rfl, _, hc⟩ := HRo.out.int hlt
        obtain ⟨ad', rfl, _, hc'⟩ := HRo'.out.int hlt
        have HS := Lib.hid (take_eq_succ l l' k (by rw [HL.out]; exact hlt) (by rw [HL'.out]; exact hlt) HE.out)
        have HD : Hid (l = l' → l.getD k 0 = l'.getD k 0) := fun e => by rw [e]
        generalize l.getD k 0 = x at *
        generalize l'.getD k 0 = y at *
        by_cases hxy : x = y
        · have HS2 := Lib.hid (HS.out hxy)
          have d1 : (x == y) = true := beq_iff_eq.2 hxy
          have d2 : (x != y) = false := by simp [hxy]
          clear hxy
          go_wp2_with fail
          refine wp_region_held_drew (S := fun W => W.cell? (ad.add k) = some (.int .i64 x) ∧ W.cell? (ad'.add k) = some (.int .i64 y)) (by kernel_rfl) (⟨hc, hc'⟩) (fun hHeld => ?_)
          refine held_run 0 (some 17) (.move (.tmp 0)) ?v6_1_2 (by rfl) (by kernel_rfl) (by kernel_rfl) (by kernel_rfl) (fun _ _ _ h => h) (fun o ho w hS => ?y6_1_2) (by assumption) ?r6_1_2
          case y6_1_2 => (try dsimp only at hS); unfold execOp; simp only [ho]; go_simp; try with_reducible rfl
          try simp only [Act.put, List.setIfInBounds_toArray, List.set_cons_zero, List.set_cons_succ]
          refine held_run 1 (some 18) (.move (.tmp 5)) ?v6_1_3 (by rfl) (by kernel_rfl) (by kernel_rfl) (by kernel_rfl) (fun _ _ _ h => h) (fun o ho w hS => ?y6_1_3) (by assumption) ?r6_1_3
          case y6_1_3 => (try dsimp only at hS); unfold execOp; simp only [ho]; go_simp; try with_reducible rfl
          try simp only [Act.put, List.setIfInBounds_toArray, List.set_cons_zero, List.set_cons_succ]
          refine held_run 2 (some 19) (.indexAddr 25 (.tmp 17) (.tmp 18)) ?v6_1_4 (by rfl) (by kernel_rfl) (by kernel_rfl) (by kernel_rfl) (fun _ _ _ h => h) (fun o ho w hS => ?y6_1_4) (by assumption) ?r6_1_4
          case y6_1_4 => (try dsimp only at hS); unfold execOp; simp only [ho]; go_simp; try with_reducible rfl
          try simp only [Act.put, List.setIfInBounds_toArray, List.set_cons_zero, List.set_cons_succ]
          refine held_run 3 (some 20) (.load 3 (.tmp 19)) ?v6_1_5 (by rfl) (by kernel_rfl) (by kernel_rfl) (by kernel_rfl) (fun _ _ _ h => h) (fun o ho w hS => ?y6_1_5) (by assumption) ?r6_1_5
          case y6_1_5 => (try dsimp only at hS); unfold execOp; simp only [ho]; go_simp; try with_reducible rfl
          try simp only [Act.put, List.setIfInBounds_toArray, List.set_cons_zero, List.set_cons_succ]
          refine held_run 4 (some 21) (.move (.tmp 1)) ?v6_1_6 (by rfl) (by kernel_rfl) (by kernel_rfl) (by kernel_rfl) (fun _ _ _ h => h) (fun o ho w hS => ?y6_1_6) (by assumption) ?r6_1_6
          case y6_1_6 => (try dsimp only at hS); unfold execOp; simp only [ho]; go_simp; try with_reducible rfl
          try simp only [Act.put, List.setIfInBounds_toArray, List.set_cons_zero, List.set_cons_succ]
          refine held_run 5 (some 22) (.move (.tmp 5)) ?v6_1_7 (by rfl) (by kernel_rfl) (by kernel_rfl) (by kernel_rfl) (fun _ _ _ h => h) (fun o ho w hS => ?y6_1_7) (by assumption) ?r6_1_7
          case y6_1_7 => (try dsimp only at hS); unfold execOp; simp only [ho]; go_simp; try with_reducible rfl
          try simp only [Act.put, List.setIfInBounds_toArray, List.set_cons_zero, List.set_cons_succ]
          refine held_run 6 (some 23) (.indexAddr 25 (.tmp 21) (.tmp 22)) ?v6_1_8 (by rfl) (by kernel_rfl) (by kernel_rfl) (by kernel_rfl) (fun _ _ _ h => h) (fun o ho w hS => ?y6_1_8) (by assumption) ?r6_1_8
          case y6_1_8 => (try dsimp only at hS); unfold execOp; simp only [ho]; go_simp; try with_reducible rfl
          try simp only [Act.put, List.setIfInBounds_toArray, List.set_cons_zero, List.set_cons_succ]
          refine held_run 7 (some 24) (.load 3 (.tmp 23)) ?v6_1_9 (by rfl) (by kernel_rfl) (by kernel_rfl) (by kernel_rfl) (fun _ _ _ h => h) (fun o ho w hS => ?y6_1_9) (by assumption) ?r6_1_9
          case y6_1_9 => (try dsimp only at hS); unfold execOp; simp only [ho]; go_simp; try with_reducible rfl
          try simp only [Act.put, List.setIfInBounds_toArray, List.set_cons_zero, List.set_cons_succ]
          refine held_run 8 (some 25) (.binOp .neq 3 (.tmp 20) (.tmp 24) 3) ?v6_1_10 (by rfl) (by kernel_rfl) (by kernel_rfl) (by kernel_rfl) (fun _ _ _ h => h) (fun o ho w hS => ?y6_1_10) (by assumption) ?r6_1_10
          case y6_1_10 => (try dsimp only at hS); unfold execOp; simp only [ho]; go_simp; try with_reducible rfl
          try simp only [Act.put, List.setIfInBounds_toArray, List.set_cons_zero, List.set_cons_succ]
          refine wpAnyH_done (by kernel_rfl) ?_ _
          go_wp2_with fail
          go_roundw
          case rel => exact ⟨k + 1, by omega, by go_num, HS2.out, HBo.out.drew⟩
          case measure => simp [intOf]; omega
        · have HZ : Hid (b = false) := hide (by rw [← HB.out]; exact decide_eq_false (fun e => hxy (HD.out e)))
          have d1 : (x == y) = false := beq_eq_false_iff_ne.2 hxy
          have d2 : (x != y) = true := by simp [hxy]
          clear hxy
          go_wp2_with fail
          refine wp_region_held_drew (S := fun W => W.cell? (ad.add k) = some (.int .i64 x) ∧ W.cell? (ad'.add k) = some (.int .i64 y)) (by kernel_rfl) (⟨hc, hc'⟩) (fun hHeld => ?_)
          refine held_run 0 (some 17) (.move (.tmp 0)) ?v6_11_12 (by rfl) (by kernel_rfl) (by kernel_rfl) (by kernel_rfl) (fun _ _ _ h => h) (fun o ho w hS => ?y6_11_12) (by assumption) ?r6_11_12
          case y6_11_12 => (try dsimp only at hS); unfold execOp; simp only [ho]; go_simp; try with_reducible rfl
          try simp only [Act.put, List.setIfInBounds_toArray, List.set_cons_zero, List.set_cons_succ]
          refine held_run 1 (some 18) (.move (.tmp 5)) ?v6_11_13 (by rfl) (by kernel_rfl) (by kernel_rfl) (by kernel_rfl) (fun _ _ _ h => h) (fun o ho w hS => ?y6_11_13) (by assumption) ?r6_11_13
          case y6_11_13 => (try dsimp only at hS); unfold execOp; simp only [ho]; go_simp; try with_reducible rfl
          try simp only [Act.put, List.setIfInBounds_toArray, List.set_cons_zero, List.set_cons_succ]
          refine held_run 2 (some 19) (.indexAddr 25 (.tmp 17) (.tmp 18)) ?v6_11_14 (by rfl) (by kernel_rfl) (by kernel_rfl) (by kernel_rfl) (fun _ _ _ h => h) (fun o ho w hS => ?y6_11_14) (by assumption) ?r6_11_14
          case y6_11_14 => (try dsimp only at hS); unfold execOp; simp only [ho]; go_simp; try with_reducible rfl
          try simp only [Act.put, List.setIfInBounds_toArray, List.set_cons_zero, List.set_cons_succ]
          refine held_run 3 (some 20) (.load 3 (.tmp 19)) ?v6_11_15 (by rfl) (by kernel_rfl) (by kernel_rfl) (by kernel_rfl) (fun _ _ _ h => h) (fun o ho w hS => ?y6_11_15) (by assumption) ?r6_11_15
          case y6_11_15 => (try dsimp only at hS); unfold execOp; simp only [ho]; go_simp; try with_reducible rfl
          try simp only [Act.put, List.setIfInBounds_toArray, List.set_cons_zero, List.set_cons_succ]
          refine held_run 4 (some 21) (.move (.tmp 1)) ?v6_11_16 (by rfl) (by kernel_rfl) (by kernel_rfl) (by kernel_rfl) (fun _ _ _ h => h) (fun o ho w hS => ?y6_11_16) (by assumption) ?r6_11_16
          case y6_11_16 => (try dsimp only at hS); unfold execOp; simp only [ho]; go_simp; try with_reducible rfl
          try simp only [Act.put, List.setIfInBounds_toArray, List.set_cons_zero, List.set_cons_succ]
          refine held_run 5 (some 22) (.move (.tmp 5)) ?v6_11_17 (by rfl) (by kernel_rfl) (by kernel_rfl) (by kernel_rfl) (fun _ _ _ h => h) (fun o ho w hS => ?y6_11_17) (by assumption) ?r6_11_17
          case y6_11_17 => (try dsimp only at hS); unfold execOp; simp only [ho]; go_simp; try with_reducible rfl
          try simp only [Act.put, List.setIfInBounds_toArray, List.set_cons_zero, List.set_cons_succ]
          refine held_run 6 (some 23) (.indexAddr 25 (.tmp 21) (.tmp 22)) ?v6_11_18 (by rfl) (by kernel_rfl) (by kernel_rfl) (by kernel_rfl) (fun _ _ _ h => h) (fun o ho w hS => ?y6_11_18) (by assumption) ?r6_11_18
          case y6_11_18 => (try dsimp only at hS); unfold execOp; simp only [ho]; go_simp; try with_reducible rfl
          try simp only [Act.put, List.setIfInBounds_toArray, List.set_cons_zero, List.set_cons_succ]
          refine held_run 7 (some 24) (.load 3 (.tmp 23)) ?v6_11_19 (by rfl) (by kernel_rfl) (by kernel_rfl) (by kernel_rfl) (fun _ _ _ h => h) (fun o ho w hS => ?y6_11_19) (by assumption) ?r6_11_19
          case y6_11_19 => (try dsimp only at hS); unfold execOp; simp only [ho]; go_simp; try with_reducible rfl
          try simp only [Act.put, List.setIfInBounds_toArray, List.set_cons_zero, List.set_cons_succ]
          refine held_run 8 (some 25) (.binOp .neq 3 (.tmp 20) (.tmp 24) 3) ?v6_11_20 (by rfl) (by kernel_rfl) (by kernel_rfl) (by kernel_rfl) (fun _ _ _ h => h) (fun o ho w hS => ?y6_11_20) (by assumption) ?r6_11_20
          case y6_11_20 => (try dsimp only at hS); unfold execOp; simp only [ho]; go_simp; try with_reducible rfl
          try simp only [Act.put, List.setIfInBounds_toArray, List.set_cons_zero, List.set_cons_succ]
          refine wpAnyH_done (by kernel_rfl) ?_ _
          go_wp2_with fail
          go_ret
          exact ⟨ret_b HZ.out.symm, HBo.out.drew⟩
      · obtain rfl : k = n := by omega
        have HZ : Hid (b = true) := by
          have h := HE.out
          rw [List.take_of_length_le (by rw [HL.out]; exact Nat.le_refl _), List.take_of_length_le (by rw [HL'.out]; exact Nat.le_refl _)] at h
          exact hide (by rw [← HB.out]; exact decide_eq_true h)
        go_wp2_with fail
        go_ret
        exact ⟨ret_b HZ.out.symm, HBo.out⟩
  · have HZ : Hid (b = false) := hide (by rw [← HB.out]; exact decide_eq_false (fun e => hlen (by rw [← HL.out, ← HL'.out, e])))
    have dn : ((n : Int) == (n' : Int)) = false := beq_eq_false_iff_ne.2 (by omega)
    have dn1 : (n : Int) ≠ (n' : Int) := by omega
    go_enter Try.func16, Try.ntmps16
    go_wp2_with fail
    go_ret
    exact ⟨ret_b HZ.out.symm, Below.refl _ _⟩

theorem reads_new' (W : World) (t : TypeId) (cs : Array Value) (size n g : Nat) (hs : cs.size = n * size) (hg : g = W.heap.size) : Reads (W.alloc (.cells cs t)) (W.alloc (.cells cs t)).heap.size size (some ⟨g, 0, none⟩) n cs.toList := by
  subst hg
  have h := Reads.new W t cs size n hs
  have e : (W.alloc (.cells cs t)).heap.size = W.heap.size + 1 := by simp
  rw [e]
  exact h
theorem lit_row (W : World) (cs : Array Value) (t : TypeId) (l : List Int) (n g : Nat) (hcs : cs.toList = l.map (Value.int .i64)) (hn : l.length = n) (hm : n ≤ maxLen) (hg : g = W.heap.size) : RowV (W.alloc (.cells cs t)) (W.alloc (.cells cs t)).heap.size (.slice (some ⟨g, 0, none⟩) n n) l := by
  subst hn
  have h := reads_new' W t cs 1 l.length g (by rw [← Array.length_toList, hcs]; simp) hg
  rw [hcs] at h
  exact ⟨_, _, rfl, Nat.le_refl _, hm, h⟩
theorem lit_str {α : Type} (f : α → List Value) (s : Nat) (W : World) (cs : Array Value) (t : TypeId) (l : List α) (n g : Nat) (hcs : cs.toList = (l.map f).flatten) (hs : cs.size = n * s) (hn : l.length = n) (hm : n ≤ maxLen) (hg : g = W.heap.size) : StrV f s (W.alloc (.cells cs t)) (W.alloc (.cells cs t)).heap.size (.slice (some ⟨g, 0, none⟩) n n) l := by
  subst hn
  have h := reads_new' W t cs s l.length g hs hg
  rw [hcs] at h
  exact ⟨_, _, rfl, Nat.le_refl _, hm, h⟩
theorem below_alloc' {B : Nat} {a W : World} (h : Below B a W) (hB : B ≤ W.heap.size) (o : Obj) : Below B a (W.alloc o) := h.trans ((below_new W o).mono hB)
theorem RowV.alloc' {W : World} {v : Value} {l : List Int} (h : RowV W W.heap.size v l) (o : Obj) : RowV (W.alloc o) (W.alloc o).heap.size v l := h.now (below_new W o)
theorem StrV.alloc' {α : Type} {f : α → List Value} {s : Nat} {W : World} {v : Value} {l : List α} (h : StrV f s W W.heap.size v l) (o : Obj) : StrV f s (W.alloc o) (W.alloc o).heap.size v l := h.now (below_new W o)
theorem rowV_only {w w' : World} {g g' n c : Nat} {l : List Int} (ho : Only g w w') (hne : g' ≠ g) (h : RowV w w.heap.size (.slice (some ⟨g', 0, none⟩) n c) l) : RowV w' w'.heap.size (.slice (some ⟨g', 0, none⟩) n c) l := by
  obtain ⟨A, c0, he, h1, h2, h3⟩ := h
  injection he with e1 e2 e3
  subst e1 e2 e3
  refine ⟨_, _, rfl, h1, h2, h3.1, fun hn => ?_⟩
  obtain ⟨ad, e, hb, hc⟩ := h3.2 hn
  injection e with e
  subst e
  exact ⟨_, rfl, by rw [ho.size]; exact hb, fun j u hu => (ho.cell (by rw [block_of_add]; exact hne)).trans (hc j u hu)⟩
theorem strV_only {α : Type} {f : α → List Value} {s : Nat} {w w' : World} {g g' n c : Nat} {l : List α} (ho : Only g w w') (hne : g' ≠ g) (h : StrV f s w w.heap.size (.slice (some ⟨g', 0, none⟩) n c) l) : StrV f s w' w'.heap.size (.slice (some ⟨g', 0, none⟩) n c) l := by
  obtain ⟨A, c0, he, h1, h2, h3⟩ := h
  injection he with e1 e2 e3
  subst e1 e2 e3
  refine ⟨_, _, rfl, h1, h2, h3.1, fun hn => ?_⟩
  obtain ⟨ad, e, hb, hc⟩ := h3.2 hn
  injection e with e
  subst e
  exact ⟨_, rfl, by rw [ho.size]; exact hb, fun j u hu => (ho.cell (by rw [block_of_add]; exact hne)).trans (hc j u hu)⟩
def sNd : List Nd := [⟨1, 1000⟩, ⟨2, 1500⟩, ⟨3, 2000⟩]
def sLf : List Lf := [⟨1, 1, 1, 3, 2000, 5000, 4, 20⟩]
def sRn : List Rn := [⟨11, 1, 3, 2, 2, 1, 900⟩, ⟨12, 1, 2, 1, 1, 2, 1200⟩]

def DefR (p : Prop) (w : World) (e : Ending) (w' : World) : Prop := ∃ b : Bool, e = .returned (.bool b) ∧ (b = true → p) ∧ Below w.heap.size w w'
theorem defR_no {p : Prop} {w w' : World} (hb : Below w.heap.size w w') : DefR p w (.returned (.bool false)) w' := ⟨false, rfl, fun h => Bool.noConfusion h, hb⟩
theorem defR_yes {p : Prop} {w w' : World} (h : p) (hb : Below w.heap.size w w') : DefR p w (.returned (.bool true)) w' := ⟨true, rfl, fun _ => h, hb⟩

set_option maxRecDepth 100000 in
set_option maxHeartbeats 4000000 in
theorem defined_any (vn vl vr vb v1 v2 : Value) (bg : Int) (nd : List Nd) (lf : List Lf) (rs : List Rn) (bs runs : List Int) (sw : List Sw) (w : World) (hn : StrV Nd.cells 2 w w.heap.size vn nd) (hl : StrV Lf.cells 8 w w.heap.size vl lf) (hm : StrV Rn.cells 7 w w.heap.size vr rs) (hb : RowV w w.heap.size vb bs) (hr1 : RowV w w.heap.size v1 runs) (hr2 : StrV Sw.cells 4 w w.heap.size v2 sw) :
    Calls Try.prog 15 #[.agg #[vn, vl, vr, vb], .agg #[v1, v2, .int .i64 bg]] w (DefR (rightR rs bs runs bg sw = 0) w) := by
  have HN := Lib.hid hn
  have HLf := Lib.hid hl
  have HM := Lib.hid hm
  have HBv := Lib.hid hb
  have HR1 := Lib.hid hr1
  have HR2 := Lib.hid hr2
  clear hn hl hm hb hr1 hr2
  have HC : Hid (∀ (r : Int) (W : World), StrV Rn.cells 7 W W.heap.size vr rs → RowV W W.heap.size vb bs → RowV W W.heap.size v1 runs → StrV Sw.cells 4 W W.heap.size v2 sw → rightR rs bs runs bg sw = r → Calls Try.prog 14 #[.agg #[vn, vl, vr, vb], .agg #[v1, v2, .int .i64 bg]] W fun e w' => e = .returned (.int .i64 r) ∧ Below W.heap.size W w') := fun r W a1 a2 a3 a4 a5 => a5 ▸ rright_any vn vl vr vb v1 v2 bg rs bs runs sw W a1 a2 a3 a4
  obtain ⟨r, hr⟩ : ∃ r, rightR rs bs runs bg sw = r := ⟨_, rfl⟩
  have HRr := Lib.hid hr
  rw [hr]
  clear hr
  go_enter Try.func15, Try.ntmps15
  go_wp2_with fail
  have HBwz0 := (Blk.new w 27 #[vn, vl, vr, vb])
  have HLwz0 := (below_new w (.cells #[vn, vl, vr, vb] 27))
  have hswz0 : (w.alloc (.cells #[vn, vl, vr, vb] 27)).heap.size = w.heap.size + 1 := by simp
  generalize w.alloc (.cells #[vn, vl, vr, vb] 27) = wz0 at HBwz0 HLwz0 hswz0 ⊢
  replace HBwz0 := Lib.hid HBwz0
  replace HLwz0 := Lib.hid HLwz0
  have hlwz0 : w.heap.size < wz0.heap.size := by omega
  replace hswz0 := Lib.hid hswz0
  have HBwb := (Blk.new wz0 30 #[v1, v2, .int .i64 bg])
  have HLwb := (below_new wz0 (.cells #[v1, v2, .int .i64 bg] 30))
  have hswb : (wz0.alloc (.cells #[v1, v2, .int .i64 bg] 30)).heap.size = wz0.heap.size + 1 := by simp
  generalize wz0.alloc (.cells #[v1, v2, .int .i64 bg] 30) = wb at HBwb HLwb hswb ⊢
  replace HBwb := Lib.hid HBwb
  replace HLwb := Lib.hid HLwb
  have hlwb : wz0.heap.size < wb.heap.size := by omega
  replace hswb := Lib.hid hswb
  have HQ1 := Lib.hid (HLwz0.out.trans (HLwb.out.mono HLwz0.out.size))
  have HWb := Lib.hid (HQ1.out)
  have hl0 : w.heap.size ≤ wb.heap.size := HWb.out.size
  have HBb : Hid (Below wb.heap.size wb wb) := hide (Below.refl _ _)
  have hszb : wb.heap.size ≤ wb.heap.size := Nat.le_refl _
  have HZ0_1 := Lib.hid (HBwz0.out.below HLwb.out hlwz0)
  have hz0_1 : w.heap.size < wb.heap.size := HZ0_1.out.lt
  have HX0b : Hid (Blk wb w.heap.size 27 #[vn, vl, vr, vb]) := hide HZ0_1.out
  have hxx0 : w.heap.size < wb.heap.size := HX0b.out.lt
  have HX1b : Hid (Blk wb (w.heap.size + 1) 30 #[v1, v2, .int .i64 bg]) := hide (by have h := HBwb.out; rw [show wz0.heap.size = w.heap.size + 1 from by have := hswz0.out; omega] at h; exact h)
  have hxx1 : (w.heap.size + 1) < wb.heap.size := HX1b.out.lt
  clear HBwz0 HLwz0 hswz0 hlwz0
  clear HBwb HLwb hswb hlwb
  have HNb := Lib.hid (HN.out.now HWb.out)
  have HLfb := Lib.hid (HLf.out.now HWb.out)
  have HMb := Lib.hid (HM.out.now HWb.out)
  have HBvb := Lib.hid (HBv.out.now HWb.out)
  have HR1b := Lib.hid (HR1.out.now HWb.out)
  have HR2b := Lib.hid (HR2.out.now HWb.out)
  go_wp2_with
    (first
     | (refine wpList_load_g 27 (.tmp 2) rfl rfl w.heap.size rfl _ _ HX0b.out _ Try.underlying27 rfl (by kernel_rfl) ?_))
  with_reducible refine (tright_any vn vl vr vb nd lf rs bs _ HNb.out HLfb.out HMb.out HBvb.out).mono ?_
  rintro e w3 ⟨r3, rfl, _, hb3⟩
  have HB3 := Lib.hid (HBb.out.trans (hb3.mono hszb))
  have HW3 := Lib.hid (HWb.out.trans (hb3.mono HWb.out.size))
  have hsz3 : wb.heap.size ≤ w3.heap.size := Nat.le_trans hszb hb3.size
  have HX03 := Lib.hid (HX0b.out.below hb3 (Nat.lt_of_lt_of_le hxx0 hszb))
  have HX13 := Lib.hid (HX1b.out.below hb3 (Nat.lt_of_lt_of_le hxx1 hszb))
  have HN3 := Lib.hid (HNb.out.now hb3)
  have HLf3 := Lib.hid (HLfb.out.now hb3)
  have HM3 := Lib.hid (HMb.out.now hb3)
  have HBv3 := Lib.hid (HBvb.out.now hb3)
  have HR13 := Lib.hid (HR1b.out.now hb3)
  have HR23 := Lib.hid (HR2b.out.now hb3)
  clear hb3
  by_cases z3 : r3 = 0
  rotate_left
  · have d0 : (r3 == 0) = false := beq_eq_false_iff_ne.2 z3
    go_wp2_with fail
    go_ret
    exact defR_no HW3.out
  subst z3
  go_wp2_with
    (first
     | (refine wpList_load_g 27 (.tmp 2) rfl rfl w.heap.size rfl _ _ HX03.out _ Try.underlying27 rfl (by kernel_rfl) ?_)
     | (refine wpList_load_g 30 (.tmp 3) rfl rfl (w.heap.size + 1) rfl _ _ HX13.out _ Try.underlying30 rfl (by kernel_rfl) ?_))
  with_reducible refine (HC.out r _ HM3.out HBv3.out HR13.out HR23.out HRr.out).mono ?_
  rintro e w4 ⟨rfl, hb4⟩
  have HB4 := Lib.hid (HB3.out.trans (hb4.mono hsz3))
  have HW4 := Lib.hid (HW3.out.trans (hb4.mono HW3.out.size))
  have hsz4 : wb.heap.size ≤ w4.heap.size := Nat.le_trans hsz3 hb4.size
  have HX04 := Lib.hid (HX03.out.below hb4 (Nat.lt_of_lt_of_le hxx0 hsz3))
  have HX14 := Lib.hid (HX13.out.below hb4 (Nat.lt_of_lt_of_le hxx1 hsz3))
  have HN4 := Lib.hid (HN3.out.now hb4)
  have HLf4 := Lib.hid (HLf3.out.now hb4)
  have HM4 := Lib.hid (HM3.out.now hb4)
  have HBv4 := Lib.hid (HBv3.out.now hb4)
  have HR14 := Lib.hid (HR13.out.now hb4)
  have HR24 := Lib.hid (HR23.out.now hb4)
  clear hb4
  by_cases zr : r = 0
  · subst zr
    go_wp2_with fail
    go_ret
    exact defR_yes (by first | rfl | trivial) HW4.out
  · have d0 : (r == 0) = false := beq_eq_false_iff_ne.2 zr
    go_wp2_with fail
    go_ret
    exact defR_no HW4.out
end Go.Proofs.Yticoeibccdplaaa
