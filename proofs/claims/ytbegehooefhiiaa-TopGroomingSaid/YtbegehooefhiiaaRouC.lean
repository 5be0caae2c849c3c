/-
  Valid of route, walked.
-/
import Derived.Test.YtbegehooefhiiaaRouB
import Derived.Test.YtbegehooefhiiaaOwnU
namespace Go.Proofs.Ytbegehooefhiiaa
open Go.RowKit

theorem row_blk {w : World} {base : Nat} {e : TypeId} {size n : Nat} {v : Value} {xs : List Value} (h : w.ownsRow base e size v n xs) {k : Nat} {t : TypeId} {cs : Array Value} (hb : Blk w k t cs) (ht : t ≠ e) : v.ownBlock ≠ some k := by
  rcases h.2 with ⟨rfl, _⟩ | ⟨g, cap, cur, rfl, _, hg, _⟩
  · simp [Value.ownBlock]
  · intro e0
    have e1 : g = k := Option.some.inj e0
    subst e1
    have h2 := hg.symm.trans hb
    simp only [Option.some.injEq, Obj.cells.injEq] at h2
    exact ht h2.2.1.symm
theorem ei_task : EInfo Try.prog 22 34 4 48 := EInfo.mk' Try.underlying22 (z := .agg #[.int .i64 0, .int .i64 0, .bool false, .slice none 0 0]) (by kernel_rfl) rfl (by omega)
/-- a slice of tasks of the call's own -/
def OwnTk (w : World) (base : Nat) (v : Value) (l : List Tk) : Prop :=
  ∃ zs : List Value, zs.length = l.length ∧ w.ownsRow base 34 4 v l.length (List.zipWith Tk.cells l zs).flatten ∧ ∀ (i : Nat) (b : Tk) (z : Value), l[i]? = some b → zs[i]? = some z → RowV w base z b.cl
theorem OwnTk.nil (w : World) (base : Nat) : OwnTk w base (.slice none 0 0) [] := ⟨[], rfl, World.ownsRow_nil _ _ _ _, fun i b z h => by cases h⟩
theorem OwnTk.nam {w : World} {base : Nat} {v : Value} {l : List Tk} (h : OwnTk w base v l) (hB : base ≤ w.heap.size) : ∃ A n c, v = .slice A n c ∧ Hid (l.length = n) ∧ n ≤ c ∧ c ≤ maxLen ∧ Tks w w.heap.size A n l := by
  obtain ⟨zs, h1, h2, h3⟩ := h
  obtain ⟨A, c, rfl, k1, k2, k3⟩ := own_open h2
  exact ⟨A, _, c, rfl, hide rfl, k1, k2, zs, h1, rfl, k3, fun i b z hb hz => (h3 i b z hb hz).more hB⟩
theorem OwnTk.now {w w' : World} {base : Nat} {v : Value} {l : List Tk} (h : OwnTk w base v l) (hB : base ≤ w.heap.size) (hb : Below w.heap.size w w') : OwnTk w' base v l := by
  obtain ⟨zs, h1, h2, h3⟩ := h
  exact ⟨zs, h1, own_below h2 hb (Nat.le_refl _), fun i b z hi hz => (h3 i b z hi hz).below (hb.mono hB)⟩
theorem zip_snoc {l : List Tk} {zs : List Value} (h : zs.length = l.length) (t : Tk) (z : Value) : (List.zipWith Tk.cells (l ++ [t]) (zs ++ [z])).flatten = (List.zipWith Tk.cells l zs).flatten ++ t.cells z := by
  rw [List.zipWith_append h.symm]
  simp
/-- what is known of a row that grows -/
theorem OwnTk.parts {w : World} {base n : Nat} {v : Value} {l : List Tk} (h : OwnTk w base v l) (hn : l.length = n) : ∃ xs, w.ownsRow base 34 4 v n xs ∧ ∀ (w' : World) (v' : Value) (t : Tk) (z : Value), w'.ownsRow base 34 4 v' (n + 1) (xs ++ t.cells z) → Below base w w' → RowV w base z t.cl → OwnTk w' base v' (l ++ [t]) := by
  subst hn
  obtain ⟨zs, h1, h2, h3⟩ := h
  refine ⟨_, h2, fun w' v' t z ho hr hz => ⟨zs ++ [z], by simp [h1], ?_, fun i b z' hb hz' => ?_⟩⟩
  · rw [zip_snoc h1, List.length_append]
    exact ho
  · rcases Nat.lt_or_ge i l.length with hi | hi
    · rw [List.getElem?_append_left hi] at hb
      rw [List.getElem?_append_left (by omega)] at hz'
      exact (h3 i b z' hb hz').below hr
    · rw [List.getElem?_append_right hi] at hb
      rw [List.getElem?_append_right (by omega), h1] at hz'
      cases hj : i - l.length with
      | zero =>
        rw [hj] at hb hz'
        simp at hb hz'
        subst hb hz'
        exact hz.below hr
      | succ j => rw [hj] at hb; simp at hb

theorem VaP.no_len {ts : List Tk} {ws : List Bool} {plan : List Sh} (h : plan.length ≠ ts.length) : ¬ VaP ts ws plan := fun hv => h hv.1
theorem VaP.no_at {ts : List Tk} {ws : List Bool} {plan : List Sh} {i : Nat} (hi : i < plan.length) (h : ¬ VaI ts ws plan i) : ¬ VaP ts ws plan := fun hv => h (hv.2 i hi)
def doneT (ts : List Tk) (plan : List Sh) (k : Nat) : List Tk := (plan.take k).map fun s => tkAt ts s.run
theorem doneT_snoc (ts : List Tk) {plan : List Sh} {k : Nat} (h : k < plan.length) : doneT ts plan (k + 1) = doneT ts plan k ++ [tkAt ts (plan.getD k sh0).run] := by
  unfold doneT
  rw [List.take_succ_eq_append_getElem h, List.map_append]
  simp [List.getElem?_eq_getElem h]
theorem doneT_len (ts : List Tk) {plan : List Sh} {k : Nat} (h : k ≤ plan.length) : (doneT ts plan k).length = k := by
  unfold doneT
  rw [List.length_map, List.length_take]
  omega
theorem doneT_at (ts : List Tk) {plan : List Sh} {k j : Nat} (hk : k ≤ plan.length) (h : j < k) : (doneT ts plan k).getD j tk0 = tkAt ts (plan.getD j sh0).run := by
  unfold doneT
  have hj : j < plan.length := by omega
  simp [List.getElem?_take, h, List.getElem?_eq_getElem hj]
theorem tkAt_run {ts : List Tk} {x : Int} (h : 0 ≤ indI (runsT ts) x) : (tkAt ts x).run = x := by
  unfold tkAt
  rcases indI_spec (runsT ts) x with ⟨h1, _⟩ | ⟨i, h1, h2, h3⟩
  · omega
  · rw [h2, Int.toNat_natCast, ← run_at (by unfold runsT at h1; rwa [List.length_map] at h1)]
    exact h3
theorem doneT_runs {ts : List Tk} {ws : List Bool} {plan : List Sh} {k : Nat} (hk : k ≤ plan.length) (h : ∀ j, j < k → VaI ts ws plan j) : runsT (doneT ts plan k) = (plan.take k).map Sh.run := by
  unfold runsT doneT
  rw [List.map_map]
  refine List.map_congr_left fun s hs => ?_
  obtain ⟨j, hj, rfl⟩ := List.getElem_of_mem hs
  rw [List.length_take] at hj
  have e : (plan.take k)[j]'(by rw [List.length_take]; omega) = plan.getD j sh0 := by
    rw [List.getElem_take]
    simp [List.getElem?_eq_getElem (show j < plan.length by omega)]
  show (tkAt ts _).run = _
  rw [e]
  exact tkAt_run (h j (by omega)).has
/-- the first two tests of a shift, and the third -/
def Ok1 (ts : List Tk) (ws : List Bool) (plan : List Sh) (k : Nat) : Prop := 0 ≤ indI (runsT ts) (plan.getD k sh0).run ∧ (plan.getD k sh0).run ∉ (plan.take k).map Sh.run ∧ fitsP (tkAt ts (plan.getD k sh0).run) ws (plan.getD k sh0)
set_option maxRecDepth 100000 in
set_option maxHeartbeats 16000000 in
theorem valid_any (A B C : Option Addr) (n c nw cw np cp : Nat) (ts : List Tk) (ws : List Bool) (plan : List Sh) (w : World) (hr : Tks w w.heap.size A n ts) (hw : Bools w w.heap.size B nw ws) (hp : Strs Sh.cells 4 w w.heap.size C np plan) (hpl : plan.length = np) (hc : n ≤ c) (hc2 : c ≤ maxLen) (hpc : np ≤ cp) (hpc2 : cp ≤ maxLen) (hok : RtOK ts ws)
    (htt : ∀ i, i < np → -9223372036854775808 ≤ (plan.getD i sh0).tt ∧ (plan.getD i sh0).tt ≤ 9223372036854775807) :
    Calls Try.prog 8 #[.slice A n c, .slice B nw cw, .slice C np cp] w (IffR (VaP ts ws plan) w) := by
  have HR := Lib.hid hr
  have HW := Lib.hid hw
  have HPl := Lib.hid hp
  have HL := Lib.hid hr.len
  have HLp := Lib.hid hpl
  have HTt := Lib.hid htt
  have HWl := Lib.hid hw.boolen
  have hn6 : n ≤ 6 := by rw [← hr.len]; exact hok.l1
  have hw1 : nw ≤ 3 := by rw [← hw.boolen]; exact hok.l2.2
  have HCl : Hid (∀ t ∈ ts, t.cl.length ≤ 6) := fun t ht => (hok.each t ht).2.2
  have HNo : Hid (∀ w', Below w.heap.size w w' → ¬ VaP ts ws plan → IffR (VaP ts ws plan) w (.returned (.bool false)) w') := fun w' h h2 => iffR_no h2 h
  have HYes : Hid (∀ w', Below w.heap.size w w' → VaP ts ws plan → IffR (VaP ts ws plan) w (.returned (.bool true)) w') := fun w' h h2 => iffR_yes h2 h
  generalize IffR (VaP ts ws plan) w = RR at *
  have HFi : Hid (∀ (A : Option Addr) (n c : Nat) (l : List Tk) (x : Int) (W : World), Tks W W.heap.size A n l → n ≤ 10000 → Calls Try.prog 15 #[.slice A n c, .int .i64 x] W fun e w' => e = .returned (.int .i64 (indI (runsT l) x)) ∧ Below W.heap.size W w') := rfind_any
  simp only [maxLen] at hc2 hpc2
  clear hr hw hp hpl hok htt
  by_cases hlen : np = n
  rotate_left
  · have q1 : ((np : Int) != (n : Int)) = true := bne_iff_ne.2 (by omega)
    have HN : Hid (¬ VaP ts ws plan) := hide (VaP.no_len (by rw [HLp.out, HL.out]; exact hlen))
    clear hlen
    go_enter Try.func8, Try.ntmps8
    go_wp2_with fail
    try go_ret
    exact HNo.out _ (Below.refl _ _) HN.out
  subst hlen
  have q1 : ((np : Int) != (np : Int)) = false := bne_self_eq_false _
  go_enter Try.func8, Try.ntmps8
  go_wp2_with fail
  obtain ⟨lo, hlo⟩ : ∃ x, w.heap.size = x := ⟨_, rfl⟩
  have HLo := Lib.hid hlo
  go_loopg [7, 21] np (fun g v i wr => ∃ k : Nat, k ≤ np ∧ g + k = np ∧ i = .int .i64 k ∧ (∀ j, j < k → VaI ts ws plan j) ∧ OwnTk wr w.heap.size v (doneT ts plan k) ∧ Below w.heap.size w wr)
  case atStart => exact ⟨0, by omega, rfl, rfl, fun j hj => by omega, OwnTk.nil _ _, Below.refl _ _⟩
  case round =>
    obtain ⟨k, hk, hgk, rfl, hV, hO, hbr⟩ := hrel
    obtain ⟨wo, rfl⟩ : ∃ wo : World, wo = wr := ⟨_, rfl⟩
    have HB := Lib.hid hbr
    have HV := Lib.hid hV
    have HO := Lib.hid hO
    obtain ⟨At, nt, ct, rfl, HLt, ht1, ht2, _⟩ := hO.nam hbr.size
    have hnt : nt = k := by rw [← HLt.out]; exact doneT_len ts (by rw [HLp.out]; exact hk)
    subst hnt
    clear hbr hV hO
    by_cases hlt : nt < np
    · obtain ⟨ad, rfl, hab, hcl⟩ := strs_at (HPl.out.now HB.out) (fun _ => rfl) HLp.out hlt sh0
      have htt := HTt.out nt hlt
      have HNa : Hid (¬ VaI ts ws plan nt → ¬ VaP ts ws plan) := fun h => VaP.no_at (by rw [HLp.out]; exact hlt) h
      have HI1 : Hid (VaI ts ws plan nt → Ok1 ts ws plan nt) := fun h => ⟨h.has, h.new, h.fit⟩
      have HI2 : Hid (Ok1 ts ws plan nt → (∀ j, j < nt → ¬ badP ts (plan.getD j sh0) (plan.getD nt sh0)) → VaI ts ws plan nt) := fun h h2 => ⟨h.1, h.2.1, h.2.2, h2⟩
      have HI3 : Hid (VaI ts ws plan nt → ∀ j, j < nt → ¬ badP ts (plan.getD j sh0) (plan.getD nt sh0)) := fun h => h.ok
      have HO1 : Hid (Ok1 ts ws plan nt ↔ 0 ≤ indI (runsT ts) (plan.getD nt sh0).run ∧ ¬ 0 ≤ indI (runsT (doneT ts plan nt)) (plan.getD nt sh0).run ∧ fitsP (tkAt ts (plan.getD nt sh0).run) ws (plan.getD nt sh0)) := hide (by
        unfold Ok1
        rw [indI_mem (l := runsT (doneT ts plan nt)), doneT_runs (by rw [HLp.out]; exact hk) HV.out])
      have HSn := Lib.hid (doneT_snoc ts (show nt < plan.length by rw [HLp.out]; exact hlt))
      have HEt : Hid (tkAt ts (plan.getD nt sh0).run = ts.getD (indI (runsT ts) (plan.getD nt sh0).run).toNat tk0) := hide rfl
      have HId : Hid (0 ≤ indI (runsT ts) (plan.getD nt sh0).run → (indI (runsT ts) (plan.getD nt sh0).run).toNat < np) := fun h => by
        rcases indI_spec (runsT ts) (plan.getD nt sh0).run with ⟨h1, _⟩ | ⟨i, h1, h2, _⟩
        · omega
        · unfold runsT at h1
          rw [List.length_map, HL.out] at h1
          rw [h2]
          exact h1
      generalize plan.getD nt sh0 = q at *
      obtain ⟨g, run, fr, tt⟩ := q
      have HCl2 : Hid (∀ i u, ([.int .i64 g, .int .i64 run, .int .i64 fr, .int .i64 tt] : List Value)[i]? = some u → wo.cell? ((ad.add (nt * 4)).add i) = some u) := hcl
      simp only at htt HO1 HSn HEt HId
      clear hcl
      go_upto_region 7 with (refine wpList_load_at 50 (.tmp 24) rfl rfl (ad.add (nt * 4)) rfl [.int .i64 g, .int .i64 run, .int .i64 fr, .int .i64 tt] HCl2.out _ Try.underlying50 rfl (by kernel_rfl) ?_)
      have HBw3 := (Blk.new wo 50 #[.int .i64 g, .int .i64 run, .int .i64 fr, .int .i64 tt])
      have HLw3 := (below_new wo (.cells #[.int .i64 g, .int .i64 run, .int .i64 fr, .int .i64 tt] 50))
      have hsw3 : (wo.alloc (.cells #[.int .i64 g, .int .i64 run, .int .i64 fr, .int .i64 tt] 50)).heap.size = wo.heap.size + 1 := by simp
      generalize wo.alloc (.cells #[.int .i64 g, .int .i64 run, .int .i64 fr, .int .i64 tt] 50) = w3 at HBw3 HLw3 hsw3 ⊢
      replace HBw3 := Lib.hid HBw3
      replace HLw3 := Lib.hid HLw3
      have hlw3 : wo.heap.size < w3.heap.size := by omega
      replace hsw3 := Lib.hid hsw3
      have HB3 := Lib.hid (HB.out.trans (HLw3.out.mono HB.out.size))
      have HX3 := HBw3
      have hx3 := hlw3
      have HO3 := Lib.hid (HO.out.now HB.out.size HLw3.out)
      clear HBw3 HLw3 hsw3 hlw3 HCl2
      have y0 : w3.cell? ⟨wo.heap.size, 0, none⟩ = some (.int .i64 g) := HX3.out.cell 0
      have y1 : w3.cell? ⟨wo.heap.size, 1, none⟩ = some (.int .i64 run) := HX3.out.cell 1
      have y2 : w3.cell? ⟨wo.heap.size, 2, none⟩ = some (.int .i64 fr) := HX3.out.cell 2
      have y3 : w3.cell? ⟨wo.heap.size, 3, none⟩ = some (.int .i64 tt) := HX3.out.cell 3
      obtain ⟨ki, hki⟩ : ∃ x, indI (runsT ts) run = x := ⟨_, rfl⟩
      have HCf : Hid (∀ W : World, Below w.heap.size w W → Calls Try.prog 15 #[.slice A np c, .int .i64 run] W fun e w' => e = .returned (.int .i64 ki) ∧ Below W.heap.size W w') := fun W hb => by
        rw [← hki]
        exact HFi.out A np c ts run W (HR.out.now hb) (by omega)
      rw [hki] at HO1 HEt HId
      obtain ⟨k2, hk2⟩ : ∃ x, indI (runsT (doneT ts plan nt)) run = x := ⟨_, rfl⟩
      have HCg : Hid (∀ W : World, OwnTk W w.heap.size (.slice At nt ct) (doneT ts plan nt) → w.heap.size ≤ W.heap.size → Calls Try.prog 15 #[.slice At nt ct, .int .i64 run] W fun e w' => e = .returned (.int .i64 k2) ∧ Below W.heap.size W w') := fun W h hB => by
        rw [← hk2]
        obtain ⟨A', n', c', e, _, _, _, h5⟩ := h.nam hB
        cases e
        exact HFi.out At nt ct _ run W h5 (by omega)
      rw [hk2] at HO1
      clear hki hk2
      go_wp2_with fail
      with_reducible refine (HCf.out w3 HB3.out).mono ?_
      rintro e w4 ⟨rfl, hb4⟩
      have HB4 := Lib.hid (HB3.out.trans (hb4.mono HB3.out.size))
      have HX4 := Lib.hid (HX3.out.below hb4 hx3)
      have hx4 : wo.heap.size < w4.heap.size := Nat.lt_of_lt_of_le hx3 hb4.size
      have HO4 := Lib.hid (HO3.out.now HB3.out.size hb4)
      clear hb4 y0 y1 y2 y3 HX3 HO3 HB3 hx3
      have HSh : Hid (∀ W, Below w4.heap.size w4 W → Blk W wo.heap.size 50 #[.int .i64 g, .int .i64 run, .int .i64 fr, .int .i64 tt] ∧ W.cell? ⟨wo.heap.size, 1, none⟩ = some (.int .i64 run)) := fun W hb => ⟨HX4.out.below hb hx4, (HX4.out.below hb hx4).cell 1⟩
      have HBd : Hid (Below w4.heap.size w4 w4.drew) := hide (Below.refl _ _).drew
      have HOd := Lib.hid (HO4.out.now HB4.out.size HBd.out)
      have hszd : w.heap.size ≤ w4.drew.heap.size := HB4.out.size
      go_upto_region 8 with (fail)
      go_cut [48] (fun s wx => ∃ q : Bool, s = .bool q ∧ (q = false ↔ Ok1 ts ws plan nt) ∧ Below w4.heap.size w4 wx)
      case first =>
        by_cases e1 : ki < 0
        · have d1 : decide (ki < 0) = true := decide_eq_true e1
          have HF : Hid (¬ Ok1 ts ws plan nt) := hide (fun h => by have := (HO1.out.1 h).1; omega)
          have h0 := (HSh.out _ HBd.out).2
          clear e1
          refine wp_region_held_drew (S := fun W => W.cell? ⟨wo.heap.size, 1, none⟩ = some (.int .i64 run)) (by kernel_rfl) (h0) (fun hHeld => ?_)
          refine held_run 0 (some 30) (.move (.tmp 10)) ?v8_1_2 (by rfl) (by kernel_rfl) (by kernel_rfl) (by kernel_rfl) (fun _ _ _ h => h) (fun o ho w hS => ?y8_1_2) (by assumption) ?r8_1_2
          case y8_1_2 => (try dsimp only at hS); unfold execOp; simp only [ho]; go_simp; try with_reducible rfl
          try simp only [Act.put, List.setIfInBounds_toArray, List.set_cons_zero, List.set_cons_succ]
          refine held_run 1 (some 31) (.binOp .lss 3 (.tmp 30) (.const (.int .i64 0)) 3) ?v8_1_3 (by rfl) (by kernel_rfl) (by kernel_rfl) (by kernel_rfl) (fun _ _ _ h => h) (fun o ho w hS => ?y8_1_3) (by assumption) ?r8_1_3
          case y8_1_3 => (try dsimp only at hS); unfold execOp; simp only [ho]; go_simp; try with_reducible rfl
          try simp only [Act.put, List.setIfInBounds_toArray, List.set_cons_zero, List.set_cons_succ]
          refine held_run 2 (some 32) (.move (.tmp 31)) ?v8_1_4 (by rfl) (by kernel_rfl) (by kernel_rfl) (by kernel_rfl) (fun _ _ _ h => h) (fun o ho w hS => ?y8_1_4) (by assumption) ?r8_1_4
          case y8_1_4 => (try dsimp only at hS); unfold execOp; simp only [ho]; go_simp; try with_reducible rfl
          try simp only [Act.put, List.setIfInBounds_toArray, List.set_cons_zero, List.set_cons_succ]
          refine held_skip 3 (some 33) (by rfl) (by kernel_rfl) (by kernel_rfl) (by kernel_rfl) (fun _ _ _ h => h) (by assumption) ?_
          try simp only [Act.put, List.setIfInBounds_toArray, List.set_cons_zero, List.set_cons_succ]
          refine held_skip 4 (some 34) (by rfl) (by kernel_rfl) (by kernel_rfl) (by kernel_rfl) (fun _ _ _ h => h) (by assumption) ?_
          try simp only [Act.put, List.setIfInBounds_toArray, List.set_cons_zero, List.set_cons_succ]
          refine held_skip 5 (some 35) (by rfl) (by kernel_rfl) (by kernel_rfl) (by kernel_rfl) (fun _ _ _ h => h) (by assumption) ?_
          try simp only [Act.put, List.setIfInBounds_toArray, List.set_cons_zero, List.set_cons_succ]
          refine held_skip 6 (some 36) (by rfl) (by kernel_rfl) (by kernel_rfl) (by kernel_rfl) (fun _ _ _ h => h) (by assumption) ?_
          try simp only [Act.put, List.setIfInBounds_toArray, List.set_cons_zero, List.set_cons_succ]
          refine held_skip 7 (some 37) (by rfl) (by kernel_rfl) (by kernel_rfl) (by kernel_rfl) (fun _ _ _ h => h) (by assumption) ?_
          try simp only [Act.put, List.setIfInBounds_toArray, List.set_cons_zero, List.set_cons_succ]
          refine held_run 8 (some 38) (.pick (.tmp 32) (.const (Value.bool true)) (.tmp 37)) ?v8_1_10 (by rfl) (by kernel_rfl) (by kernel_rfl) (by kernel_rfl) (fun _ _ _ h => h) (fun o ho w hS => ?y8_1_10) (by assumption) ?r8_1_10
          case y8_1_10 => (try dsimp only at hS); unfold execOp; simp only [ho]; go_simp; try with_reducible rfl
          try simp only [Act.put, List.setIfInBounds_toArray, List.set_cons_zero, List.set_cons_succ]
          refine held_run 9 (some 39) (.move (.tmp 38)) ?v8_1_11 (by rfl) (by kernel_rfl) (by kernel_rfl) (by kernel_rfl) (fun _ _ _ h => h) (fun o ho w hS => ?y8_1_11) (by assumption) ?r8_1_11
          case y8_1_11 => (try dsimp only at hS); unfold execOp; simp only [ho]; go_simp; try with_reducible rfl
          try simp only [Act.put, List.setIfInBounds_toArray, List.set_cons_zero, List.set_cons_succ]
          refine held_skip 10 (some 40) (by rfl) (by kernel_rfl) (by kernel_rfl) (by kernel_rfl) (fun _ _ _ h => h) (by assumption) ?_
          try simp only [Act.put, List.setIfInBounds_toArray, List.set_cons_zero, List.set_cons_succ]
          refine held_skip 11 (some 41) (by rfl) (by kernel_rfl) (by kernel_rfl) (by kernel_rfl) (fun _ _ _ h => h) (by assumption) ?_
          try simp only [Act.put, List.setIfInBounds_toArray, List.set_cons_zero, List.set_cons_succ]
          refine held_skip 12 (some 42) (by rfl) (by kernel_rfl) (by kernel_rfl) (by kernel_rfl) (fun _ _ _ h => h) (by assumption) ?_
          try simp only [Act.put, List.setIfInBounds_toArray, List.set_cons_zero, List.set_cons_succ]
          refine held_skip 13 (some 43) (by rfl) (by kernel_rfl) (by kernel_rfl) (by kernel_rfl) (fun _ _ _ h => h) (by assumption) ?_
          try simp only [Act.put, List.setIfInBounds_toArray, List.set_cons_zero, List.set_cons_succ]
          refine held_skip 14 (some 44) (by rfl) (by kernel_rfl) (by kernel_rfl) (by kernel_rfl) (fun _ _ _ h => h) (by assumption) ?_
          try simp only [Act.put, List.setIfInBounds_toArray, List.set_cons_zero, List.set_cons_succ]
          refine held_skip 15 (some 45) (by rfl) (by kernel_rfl) (by kernel_rfl) (by kernel_rfl) (fun _ _ _ h => h) (by assumption) ?_
          try simp only [Act.put, List.setIfInBounds_toArray, List.set_cons_zero, List.set_cons_succ]
          refine held_skip 16 (some 46) (by rfl) (by kernel_rfl) (by kernel_rfl) (by kernel_rfl) (fun _ _ _ h => h) (by assumption) ?_
          try simp only [Act.put, List.setIfInBounds_toArray, List.set_cons_zero, List.set_cons_succ]
          refine held_skip 17 (some 47) (by rfl) (by kernel_rfl) (by kernel_rfl) (by kernel_rfl) (fun _ _ _ h => h) (by assumption) ?_
          try simp only [Act.put, List.setIfInBounds_toArray, List.set_cons_zero, List.set_cons_succ]
          refine held_run 18 (some 48) (.pick (.tmp 39) (.const (Value.bool true)) (.tmp 47)) ?v8_1_20 (by rfl) (by kernel_rfl) (by kernel_rfl) (by kernel_rfl) (fun _ _ _ h => h) (fun o ho w hS => ?y8_1_20) (by assumption) ?r8_1_20
          case y8_1_20 => (try dsimp only at hS); unfold execOp; simp only [ho]; go_simp; try with_reducible rfl
          try simp only [Act.put, List.setIfInBounds_toArray, List.set_cons_zero, List.set_cons_succ]
          refine wpAnyH_done (by kernel_rfl) ?_ _
          go_wp2_with fail
          go_meet
          exact ⟨true, rfl, ⟨(fun h => by cases h), fun h => absurd h HF.out⟩, HBd.out⟩
        · have d1 : decide (ki < 0) = false := decide_eq_false e1
          by_cases e2 : 0 ≤ k2
          · have d2 : decide (k2 ≥ 0) = true := decide_eq_true e2
            have HF : Hid (¬ Ok1 ts ws plan nt) := hide (fun h => by have := (HO1.out.1 h).2.1; omega)
            have h0 := (HSh.out _ HBd.out).2
            clear e1 e2
            refine wp_region_held_drew (S := fun W => W.cell? ⟨wo.heap.size, 1, none⟩ = some (.int .i64 run)) (by kernel_rfl) (h0) (fun hHeld => ?_)
            refine held_run 0 (some 30) (.move (.tmp 10)) ?v8_21_22 (by rfl) (by kernel_rfl) (by kernel_rfl) (by kernel_rfl) (fun _ _ _ h => h) (fun o ho w hS => ?y8_21_22) (by assumption) ?r8_21_22
            case y8_21_22 => (try dsimp only at hS); unfold execOp; simp only [ho]; go_simp; try with_reducible rfl
            try simp only [Act.put, List.setIfInBounds_toArray, List.set_cons_zero, List.set_cons_succ]
            refine held_run 1 (some 31) (.binOp .lss 3 (.tmp 30) (.const (.int .i64 0)) 3) ?v8_21_23 (by rfl) (by kernel_rfl) (by kernel_rfl) (by kernel_rfl) (fun _ _ _ h => h) (fun o ho w hS => ?y8_21_23) (by assumption) ?r8_21_23
            case y8_21_23 => (try dsimp only at hS); unfold execOp; simp only [ho]; go_simp; try with_reducible rfl
            try simp only [Act.put, List.setIfInBounds_toArray, List.set_cons_zero, List.set_cons_succ]
            refine held_run 2 (some 32) (.move (.tmp 31)) ?v8_21_24 (by rfl) (by kernel_rfl) (by kernel_rfl) (by kernel_rfl) (fun _ _ _ h => h) (fun o ho w hS => ?y8_21_24) (by assumption) ?r8_21_24
            case y8_21_24 => (try dsimp only at hS); unfold execOp; simp only [ho]; go_simp; try with_reducible rfl
            try simp only [Act.put, List.setIfInBounds_toArray, List.set_cons_zero, List.set_cons_succ]
            refine held_run 3 (some 33) (.move (.tmp 7)) ?v8_21_25 (by rfl) (by kernel_rfl) (by kernel_rfl) (by kernel_rfl) (fun _ _ _ h => h) (fun o ho w hS => ?y8_21_25) (by assumption) ?r8_21_25
            case y8_21_25 => (try dsimp only at hS); unfold execOp; simp only [ho]; go_simp; try with_reducible rfl
            try simp only [Act.put, List.setIfInBounds_toArray, List.set_cons_zero, List.set_cons_succ]
            refine held_run 4 (some 34) (.fieldAddr 50 (.tmp 9) 1) ?v8_21_26 (by rfl) (by kernel_rfl) (by kernel_rfl) (by kernel_rfl) (fun _ _ _ h => h) (fun o ho w hS => ?y8_21_26) (by assumption) ?r8_21_26
            case y8_21_26 => (try dsimp only at hS); unfold execOp; simp only [ho]; go_simp; try with_reducible rfl
            try simp only [Act.put, List.setIfInBounds_toArray, List.set_cons_zero, List.set_cons_succ]
            refine held_run 5 (some 35) (.load 3 (.tmp 34)) ?v8_21_27 (by rfl) (by kernel_rfl) (by kernel_rfl) (by kernel_rfl) (fun _ _ _ h => h) (fun o ho w hS => ?y8_21_27) (by assumption) ?r8_21_27
            case y8_21_27 => (try dsimp only at hS); unfold execOp; simp only [ho]; go_simp; try with_reducible rfl
            try simp only [Act.put, List.setIfInBounds_toArray, List.set_cons_zero, List.set_cons_succ]
            refine held_call 6 (some 36) 15 [(.tmp 33), (.tmp 35)] #[22, 3] #[.slice At nt ct, .int .i64 run] (by rfl) (by rfl) (by kernel_rfl) Try.func15 (by rfl) (by rfl) ?_
            refine (HCg.out _ HOd.out hszd).mono ?_
            rintro e we ⟨rfl, hb⟩
            have HBe := Lib.hid (HBd.out.trans hb)
            clear hb h0
            have h0 := (HSh.out _ HBe.out).2
            refine ⟨_, rfl, h0, ?_⟩
            try simp only [Act.put, List.setIfInBounds_toArray, List.set_cons_zero, List.set_cons_succ]
            refine held_run 7 (some 37) (.binOp .geq 3 (.tmp 36) (.const (.int .i64 0)) 3) ?v8_21_29 (by rfl) (by kernel_rfl) (by kernel_rfl) (by kernel_rfl) (fun _ _ _ h => h) (fun o ho w hS => ?y8_21_29) (by assumption) ?r8_21_29
            case y8_21_29 => (try dsimp only at hS); unfold execOp; simp only [ho]; go_simp; try with_reducible rfl
            try simp only [Act.put, List.setIfInBounds_toArray, List.set_cons_zero, List.set_cons_succ]
            refine held_run 8 (some 38) (.pick (.tmp 32) (.const (Value.bool true)) (.tmp 37)) ?v8_21_30 (by rfl) (by kernel_rfl) (by kernel_rfl) (by kernel_rfl) (fun _ _ _ h => h) (fun o ho w hS => ?y8_21_30) (by assumption) ?r8_21_30
            case y8_21_30 => (try dsimp only at hS); unfold execOp; simp only [ho]; go_simp; try with_reducible rfl
            try simp only [Act.put, List.setIfInBounds_toArray, List.set_cons_zero, List.set_cons_succ]
            refine held_run 9 (some 39) (.move (.tmp 38)) ?v8_21_31 (by rfl) (by kernel_rfl) (by kernel_rfl) (by kernel_rfl) (fun _ _ _ h => h) (fun o ho w hS => ?y8_21_31) (by assumption) ?r8_21_31
            case y8_21_31 => (try dsimp only at hS); unfold execOp; simp only [ho]; go_simp; try with_reducible rfl
            try simp only [Act.put, List.setIfInBounds_toArray, List.set_cons_zero, List.set_cons_succ]
            refine held_skip 10 (some 40) (by rfl) (by kernel_rfl) (by kernel_rfl) (by kernel_rfl) (fun _ _ _ h => h) (by assumption) ?_
            try simp only [Act.put, List.setIfInBounds_toArray, List.set_cons_zero, List.set_cons_succ]
            refine held_skip 11 (some 41) (by rfl) (by kernel_rfl) (by kernel_rfl) (by kernel_rfl) (fun _ _ _ h => h) (by assumption) ?_
            try simp only [Act.put, List.setIfInBounds_toArray, List.set_cons_zero, List.set_cons_succ]
            refine held_skip 12 (some 42) (by rfl) (by kernel_rfl) (by kernel_rfl) (by kernel_rfl) (fun _ _ _ h => h) (by assumption) ?_
            try simp only [Act.put, List.setIfInBounds_toArray, List.set_cons_zero, List.set_cons_succ]
            refine held_skip 13 (some 43) (by rfl) (by kernel_rfl) (by kernel_rfl) (by kernel_rfl) (fun _ _ _ h => h) (by assumption) ?_
            try simp only [Act.put, List.setIfInBounds_toArray, List.set_cons_zero, List.set_cons_succ]
            refine held_skip 14 (some 44) (by rfl) (by kernel_rfl) (by kernel_rfl) (by kernel_rfl) (fun _ _ _ h => h) (by assumption) ?_
            try simp only [Act.put, List.setIfInBounds_toArray, List.set_cons_zero, List.set_cons_succ]
            refine held_skip 15 (some 45) (by rfl) (by kernel_rfl) (by kernel_rfl) (by kernel_rfl) (fun _ _ _ h => h) (by assumption) ?_
            try simp only [Act.put, List.setIfInBounds_toArray, List.set_cons_zero, List.set_cons_succ]
            refine held_skip 16 (some 46) (by rfl) (by kernel_rfl) (by kernel_rfl) (by kernel_rfl) (fun _ _ _ h => h) (by assumption) ?_
            try simp only [Act.put, List.setIfInBounds_toArray, List.set_cons_zero, List.set_cons_succ]
            refine held_skip 17 (some 47) (by rfl) (by kernel_rfl) (by kernel_rfl) (by kernel_rfl) (fun _ _ _ h => h) (by assumption) ?_
            try simp only [Act.put, List.setIfInBounds_toArray, List.set_cons_zero, List.set_cons_succ]
            refine held_run 18 (some 48) (.pick (.tmp 39) (.const (Value.bool true)) (.tmp 47)) ?v8_21_40 (by rfl) (by kernel_rfl) (by kernel_rfl) (by kernel_rfl) (fun _ _ _ h => h) (fun o ho w hS => ?y8_21_40) (by assumption) ?r8_21_40
            case y8_21_40 => (try dsimp only at hS); unfold execOp; simp only [ho]; go_simp; try with_reducible rfl
            try simp only [Act.put, List.setIfInBounds_toArray, List.set_cons_zero, List.set_cons_succ]
            refine wpAnyH_done (by kernel_rfl) ?_ _
            go_wp2_with fail
            go_meet
            exact ⟨true, rfl, ⟨(fun h => by cases h), fun h => absurd h HF.out⟩, HBe.out⟩
          · have d2 : decide (k2 ≥ 0) = false := decide_eq_false e2
            obtain ⟨kn, rfl⟩ : ∃ kn : Nat, ki = (kn : Int) := ⟨ki.toNat, by omega⟩
            have hkn : kn < np := by have := HId.out (by omega); simpa using this
            obtain ⟨ad2, z2, rfl, hab2, hcl2, hz2⟩ := HR.out.at_ hkn
            have HE2 : Hid (tkAt ts run = ts.getD kn tk0) := hide (by rw [HEt.out, Int.toNat_natCast])
            have HF : Hid (Ok1 ts ws plan nt ↔ fitsP (ts.getD kn tk0) ws ⟨g, run, fr, tt⟩) := hide (by rw [HO1.out, HE2.out]; exact ⟨fun h => h.2.2, fun h => ⟨by omega, by omega, h⟩⟩)
            generalize ts.getD kn tk0 = a at *
            obtain ⟨arun, asec, awin, acl⟩ := a
            have HEl : Hid (∀ W, Below w.heap.size w W → ∀ j u, ([.int .i64 arun, .int .i64 asec, .bool awin, z2] : List Value)[j]? = some u → W.cell? ((ad2.add (kn * 4)).add j) = some u) := fun W hb j u hu => (hb.cell (by rw [block_of_add, block_of_add]; exact hab2)).trans (hcl2 j u hu)
            have HSS : Hid (∀ W, Below w4.heap.size w4 W → (fun W : World => (Blk W wo.heap.size 50 #[.int .i64 g, .int .i64 run, .int .i64 fr, .int .i64 tt] ∧ W.cell? ⟨wo.heap.size, 1, none⟩ = some (.int .i64 run)) ∧ ∀ j u, ([.int .i64 arun, .int .i64 asec, .bool awin, z2] : List Value)[j]? = some u → W.cell? ((ad2.add (kn * 4)).add j) = some u) W) := fun W hb => ⟨HSh.out W hb, HEl.out W (HB4.out.trans (hb.mono HB4.out.size))⟩
            have h0 := HSS.out _ HBd.out
            have hkl : (kn : Int) < (np : Int) := by omega
            clear e1 e2 hcl2 hz2
            refine wp_region_held_drew (S := fun W : World => (Blk W wo.heap.size 50 #[.int .i64 g, .int .i64 run, .int .i64 fr, .int .i64 tt] ∧ W.cell? ⟨wo.heap.size, 1, none⟩ = some (.int .i64 run)) ∧ ∀ j u, ([.int .i64 arun, .int .i64 asec, .bool awin, z2] : List Value)[j]? = some u → W.cell? ((ad2.add (kn * 4)).add j) = some u) (by kernel_rfl) (h0) (fun hHeld => ?_)
            refine held_run 0 (some 30) (.move (.tmp 10)) ?v8_41_42 (by rfl) (by kernel_rfl) (by kernel_rfl) (by kernel_rfl) (fun _ _ _ h => h) (fun o ho w hS => ?y8_41_42) (by assumption) ?r8_41_42
            case y8_41_42 => (try dsimp only at hS); unfold execOp; simp only [ho]; go_simp; try with_reducible rfl
            try simp only [Act.put, List.setIfInBounds_toArray, List.set_cons_zero, List.set_cons_succ]
            refine held_run 1 (some 31) (.binOp .lss 3 (.tmp 30) (.const (.int .i64 0)) 3) ?v8_41_43 (by rfl) (by kernel_rfl) (by kernel_rfl) (by kernel_rfl) (fun _ _ _ h => h) (fun o ho w hS => ?y8_41_43) (by assumption) ?r8_41_43
            case y8_41_43 => (try dsimp only at hS); unfold execOp; simp only [ho]; go_simp; try with_reducible rfl
            try simp only [Act.put, List.setIfInBounds_toArray, List.set_cons_zero, List.set_cons_succ]
            refine held_run 2 (some 32) (.move (.tmp 31)) ?v8_41_44 (by rfl) (by kernel_rfl) (by kernel_rfl) (by kernel_rfl) (fun _ _ _ h => h) (fun o ho w hS => ?y8_41_44) (by assumption) ?r8_41_44
            case y8_41_44 => (try dsimp only at hS); unfold execOp; simp only [ho]; go_simp; try with_reducible rfl
            try simp only [Act.put, List.setIfInBounds_toArray, List.set_cons_zero, List.set_cons_succ]
            refine held_run 3 (some 33) (.move (.tmp 7)) ?v8_41_45 (by rfl) (by kernel_rfl) (by kernel_rfl) (by kernel_rfl) (fun _ _ _ h => h) (fun o ho w hS => ?y8_41_45) (by assumption) ?r8_41_45
            case y8_41_45 => (try dsimp only at hS); unfold execOp; simp only [ho]; go_simp; try with_reducible rfl
            try simp only [Act.put, List.setIfInBounds_toArray, List.set_cons_zero, List.set_cons_succ]
            refine held_run 4 (some 34) (.fieldAddr 50 (.tmp 9) 1) ?v8_41_46 (by rfl) (by kernel_rfl) (by kernel_rfl) (by kernel_rfl) (fun _ _ _ h => h) (fun o ho w hS => ?y8_41_46) (by assumption) ?r8_41_46
            case y8_41_46 => (try dsimp only at hS); unfold execOp; simp only [ho]; go_simp; try with_reducible rfl
            try simp only [Act.put, List.setIfInBounds_toArray, List.set_cons_zero, List.set_cons_succ]
            refine held_run 5 (some 35) (.load 3 (.tmp 34)) ?v8_41_47 (by rfl) (by kernel_rfl) (by kernel_rfl) (by kernel_rfl) (fun _ _ _ h => h) (fun o ho w hS => ?y8_41_47) (by assumption) ?r8_41_47
            case y8_41_47 => (try dsimp only at hS); unfold execOp; simp only [ho]; go_simp; try with_reducible rfl
            try simp only [Act.put, List.setIfInBounds_toArray, List.set_cons_zero, List.set_cons_succ]
            refine held_call 6 (some 36) 15 [(.tmp 33), (.tmp 35)] #[22, 3] #[.slice At nt ct, .int .i64 run] (by rfl) (by rfl) (by kernel_rfl) Try.func15 (by rfl) (by rfl) ?_
            refine (HCg.out _ HOd.out hszd).mono ?_
            rintro e we ⟨rfl, hb⟩
            have HBe := Lib.hid (HBd.out.trans hb)
            clear hb h0
            have h0 := HSS.out _ HBe.out
            refine ⟨_, rfl, h0, ?_⟩
            try simp only [Act.put, List.setIfInBounds_toArray, List.set_cons_zero, List.set_cons_succ]
            refine held_run 7 (some 37) (.binOp .geq 3 (.tmp 36) (.const (.int .i64 0)) 3) ?v8_41_49 (by rfl) (by kernel_rfl) (by kernel_rfl) (by kernel_rfl) (fun _ _ _ h => h) (fun o ho w hS => ?y8_41_49) (by assumption) ?r8_41_49
            case y8_41_49 => (try dsimp only at hS); unfold execOp; simp only [ho]; go_simp; try with_reducible rfl
            try simp only [Act.put, List.setIfInBounds_toArray, List.set_cons_zero, List.set_cons_succ]
            refine held_run 8 (some 38) (.pick (.tmp 32) (.const (Value.bool true)) (.tmp 37)) ?v8_41_50 (by rfl) (by kernel_rfl) (by kernel_rfl) (by kernel_rfl) (fun _ _ _ h => h) (fun o ho w hS => ?y8_41_50) (by assumption) ?r8_41_50
            case y8_41_50 => (try dsimp only at hS); unfold execOp; simp only [ho]; go_simp; try with_reducible rfl
            try simp only [Act.put, List.setIfInBounds_toArray, List.set_cons_zero, List.set_cons_succ]
            refine held_run 9 (some 39) (.move (.tmp 38)) ?v8_41_51 (by rfl) (by kernel_rfl) (by kernel_rfl) (by kernel_rfl) (fun _ _ _ h => h) (fun o ho w hS => ?y8_41_51) (by assumption) ?r8_41_51
            case y8_41_51 => (try dsimp only at hS); unfold execOp; simp only [ho]; go_simp; try with_reducible rfl
            try simp only [Act.put, List.setIfInBounds_toArray, List.set_cons_zero, List.set_cons_succ]
            refine held_run 10 (some 40) (.move (.tmp 0)) ?v8_41_52 (by rfl) (by kernel_rfl) (by kernel_rfl) (by kernel_rfl) (fun _ _ _ h => h) (fun o ho w hS => ?y8_41_52) (by assumption) ?r8_41_52
            case y8_41_52 => (try dsimp only at hS); unfold execOp; simp only [ho]; go_simp; try with_reducible rfl
            try simp only [Act.put, List.setIfInBounds_toArray, List.set_cons_zero, List.set_cons_succ]
            refine held_run 11 (some 41) (.move (.tmp 10)) ?v8_41_53 (by rfl) (by kernel_rfl) (by kernel_rfl) (by kernel_rfl) (fun _ _ _ h => h) (fun o ho w hS => ?y8_41_53) (by assumption) ?r8_41_53
            case y8_41_53 => (try dsimp only at hS); unfold execOp; simp only [ho]; go_simp; try with_reducible rfl
            try simp only [Act.put, List.setIfInBounds_toArray, List.set_cons_zero, List.set_cons_succ]
            refine held_run 12 (some 42) (.indexAddr 22 (.tmp 40) (.tmp 41)) ?v8_41_54 (by rfl) (by kernel_rfl) (by kernel_rfl) (by kernel_rfl) (fun _ _ _ h => h) (fun o ho w hS => ?y8_41_54) (by assumption) ?r8_41_54
            case y8_41_54 => (try dsimp only at hS); unfold execOp; simp only [ho]; go_simp; try with_reducible rfl
            try simp only [Act.put, List.setIfInBounds_toArray, List.set_cons_zero, List.set_cons_succ]
            refine held_load_at 13 (some 43) 34 (.tmp 42) (by rfl) (by kernel_rfl) (by kernel_rfl) (by kernel_rfl) ((ad2.add (kn * 4))) [.int .i64 arun, .int .i64 asec, .bool awin, z2] (fun _ _ _ h => h) (by rfl) (fun _ h => h.2) _ Try.underlying34 rfl (by kernel_rfl) (by assumption) ?_
            try simp only [Act.put, List.setIfInBounds_toArray, List.set_cons_zero, List.set_cons_succ]
            refine held_run 14 (some 44) (.move (.tmp 1)) ?v8_41_56 (by rfl) (by kernel_rfl) (by kernel_rfl) (by kernel_rfl) (fun _ _ _ h => h) (fun o ho w hS => ?y8_41_56) (by assumption) ?r8_41_56
            case y8_41_56 => (try dsimp only at hS); unfold execOp; simp only [ho]; go_simp; try with_reducible rfl
            try simp only [Act.put, List.setIfInBounds_toArray, List.set_cons_zero, List.set_cons_succ]
            refine held_load 15 (some 45) 50 (.tmp 9) (by rfl) (by kernel_rfl) (by kernel_rfl) (by kernel_rfl) (wo.heap.size) 50 #[.int .i64 g, .int .i64 run, .int .i64 fr, .int .i64 tt] (fun _ _ _ h => h) (by rfl) (fun _ h => h.1.1) _ Try.underlying50 rfl (by kernel_rfl) (by assumption) ?_
            try simp only [Act.put, List.setIfInBounds_toArray, List.set_cons_zero, List.set_cons_succ]
            refine held_call 16 (some 46) 16 [(.tmp 43), (.tmp 44), (.tmp 45)] #[34, 23, 50] #[.agg #[.int .i64 arun, .int .i64 asec, .bool awin, z2], .slice B nw cw, .agg #[.int .i64 g, .int .i64 run, .int .i64 fr, .int .i64 tt]] (by rfl) (by rfl) (by kernel_rfl) Try.func16 (by rfl) (by rfl) ?_
            refine (fits_any ⟨arun, asec, awin, acl⟩ _ B nw cw ws ⟨g, run, fr, tt⟩ _ (HW.out.now (HB4.out.trans (HBe.out.mono HB4.out.size))) (by omega) ⟨z2, rfl⟩ htt).mono ?_
            rintro e wf ⟨fb, rfl, hfb, hb⟩
            have HBf := Lib.hid (HBe.out.trans (hb.mono HBe.out.size))
            have HFb := Lib.hid hfb
            clear hb h0 hfb
            have h0 := HSS.out _ HBf.out
            refine ⟨_, rfl, h0, ?_⟩
            try simp only [Act.put, List.setIfInBounds_toArray, List.set_cons_zero, List.set_cons_succ]
            refine held_run 17 (some 47) (.unOp .not 4 (.tmp 46)) ?v8_41_59 (by rfl) (by kernel_rfl) (by kernel_rfl) (by kernel_rfl) (fun _ _ _ h => h) (fun o ho w hS => ?y8_41_59) (by assumption) ?r8_41_59
            case y8_41_59 => (try dsimp only at hS); unfold execOp; simp only [ho]; go_simp; try with_reducible rfl
            try simp only [Act.put, List.setIfInBounds_toArray, List.set_cons_zero, List.set_cons_succ]
            refine held_run 18 (some 48) (.pick (.tmp 39) (.const (Value.bool true)) (.tmp 47)) ?v8_41_60 (by rfl) (by kernel_rfl) (by kernel_rfl) (by kernel_rfl) (fun _ _ _ h => h) (fun o ho w hS => ?y8_41_60) (by assumption) ?r8_41_60
            case y8_41_60 => (try dsimp only at hS); unfold execOp; simp only [ho]; go_simp; try with_reducible rfl
            try simp only [Act.put, List.setIfInBounds_toArray, List.set_cons_zero, List.set_cons_succ]
            refine wpAnyH_done (by kernel_rfl) ?_ _
            go_wp2_with fail
            go_meet
            exact ⟨!fb, rfl, by rw [HF.out, ← HFb.out]; simp, HBf.out⟩
      obtain ⟨q, rfl, hq, hcut⟩ := hcut
      obtain ⟨w5, rfl⟩ : ∃ wk : World, wk = wc := ⟨_, rfl⟩
      have HB5 := Lib.hid (HB4.out.trans (hcut.mono HB4.out.size))
      have HX5 := Lib.hid (HX4.out.below hcut hx4)
      have hx5 : wo.heap.size < w5.heap.size := Nat.lt_of_lt_of_le hx4 hcut.size
      have HO5 := Lib.hid (HO4.out.now HB4.out.size hcut)
      have HQ := Lib.hid hq
      clear hq hcut HSh HBd HOd hszd HX4 HO4 HB4 hx4 HCg HCf
      cases q with
      | true =>
        have HN : Hid (¬ VaP ts ws plan) := hide (HNa.out fun h => by have := HQ.out.2 (HI1.out h); cases this)
        go_wp2_with fail
        try go_ret
        exact HNo.out _ HB5.out HN.out
      | false =>
        have HOk := Lib.hid (HQ.out.1 rfl)
        have hki0 := (HO1.out.1 HOk.out).1
        obtain ⟨kn, rfl⟩ : ∃ kn : Nat, ki = (kn : Int) := ⟨ki.toNat, by omega⟩
        have hkn : kn < np := by have := HId.out (by omega); simpa using this
        obtain ⟨ad2, z2, rfl, hab2, hcl2, hz2⟩ := HR.out.at_ hkn
        have HE2 : Hid (tkAt ts run = ts.getD kn tk0) := hide (by rw [HEt.out, Int.toNat_natCast])
        have hcl6 : (ts.getD kn tk0).cl.length ≤ 1000 := Nat.le_trans (HCl.out _ (tk_mem (by rw [HL.out]; exact hkn))) (by omega)
        rw [HE2.out] at HSn
        generalize ts.getD kn tk0 = a at *
        obtain ⟨arun, asec, awin, acl⟩ := a
        obtain ⟨Az, nz, cz, rfl, HLz, _, _, _⟩ := hz2.nam
        have HEl : Hid (∀ W, Below w.heap.size w W → ∀ j u, ([.int .i64 arun, .int .i64 asec, .bool awin, .slice Az nz cz] : List Value)[j]? = some u → W.cell? ((ad2.add (kn * 4)).add j) = some u) := fun W hb j u hu => (hb.cell (by rw [block_of_add, block_of_add]; exact hab2)).trans (hcl2 j u hu)
        have HZ : Hid (RowV w w.heap.size (.slice Az nz cz) acl) := hz2
        obtain ⟨xs, hxs, hgrow⟩ := HO5.out.parts HLt.out
        have HXs := Lib.hid hxs
        have HGr := Lib.hid hgrow
        have hsz5 : w.heap.size ≤ w5.heap.size := HB5.out.size
        have hkl : (kn : Int) < (np : Int) := by omega
        have hntc : (nt : Int) ≤ (cp : Int) := by omega
        clear hcl2 hz2 hxs hgrow hki0 HQ HO1 HI1 HId HEt
        go_upto_region 11 with (first
          | (refine wpList_load_at 34 (.tmp 52) rfl rfl (ad2.add (kn * 4)) rfl [.int .i64 arun, .int .i64 asec, .bool awin, .slice Az nz cz] (HEl.out _ HB5.out) _ Try.underlying34 rfl (by kernel_rfl) ?_)
          | (at_builtin
             refine wpList_app_lit ei_task rfl (.tmp 49) (.tmp 54) rfl w.heap.size (.slice At nt ct) nt xs rfl HXs.out 1 rfl rfl (by simp [Value.oneCell']) (by simp only [maxLen]; omega) (by omega) hsz5 ?_
             intro v9 w9 hown9 hb9 hg9 _
             have HO9 : Hid (OwnTk w9 w.heap.size v9 (doneT ts plan (nt + 1))) := hide (by rw [HSn.out]; exact HGr.out w9 v9 ⟨arun, asec, awin, acl⟩ (.slice Az nz cz) hown9 hb9 (HZ.out.below HB5.out))
             have HB9 := Lib.hid (HB5.out.trans hb9)
             have hg59 := grown_alloc' hg9
             have HX9 : Hid (Blk w9 wo.heap.size 50 #[.int .i64 g, .int .i64 run, .int .i64 fr, .int .i64 tt]) := hide (HX5.out.grown hg59 (Ne.symm (row_blk HXs.out HX5.out (by decide))))
             have hx9 : wo.heap.size < w9.heap.size := Nat.lt_of_lt_of_le hx5 hg59.size
             obtain ⟨A9, n9, c9, rfl, HL9, h91, h92, _⟩ := HO9.out.nam HB9.out.size
             clear hown9 hb9 hg9 hg59))
        have hn9 : n9 = nt + 1 := by rw [← HL9.out]; exact doneT_len ts (by rw [HLp.out]; omega)
        subst hn9
        clear HXs HGr HLt HO5 HX5 hsz5 hx5
        go_wp2_with fail
        go_loopg [60] nt (fun gg i wr => ∃ j : Nat, j ≤ nt ∧ gg + j = nt ∧ i = .int .i64 j ∧ (∀ j', j' < j → ¬ badP ts (plan.getD j' sh0) ⟨g, run, fr, tt⟩) ∧ Below w9.heap.size w9 wr)
        case atStart => exact ⟨0, by omega, rfl, rfl, fun j hj => by omega, Below.refl _ _⟩
        case round =>
          obtain ⟨j, hj, hgj, rfl, hbad, hbr⟩ := hrel
          obtain ⟨wi, rfl⟩ : ∃ wi : World, wi = wr := ⟨_, rfl⟩
          have HBi := Lib.hid (HB9.out.trans (hbr.mono HB9.out.size))
          have HBr := Lib.hid hbr
          have HBad := Lib.hid hbad
          have HXi := Lib.hid (HX9.out.below hbr hx9)
          have hxi : wo.heap.size < wi.heap.size := Nat.lt_of_lt_of_le hx9 hbr.size
          have HOi := Lib.hid (HO9.out.now HB9.out.size hbr)
          clear hbad hbr
          by_cases hlt2 : j < nt
          · obtain ⟨ad', e', _, hclj⟩ := strs_at (HPl.out.now HBi.out) (fun _ => rfl) HLp.out (show j < np by omega) sh0
            injection e' with e'
            subst e'
            have HDj : Hid ((doneT ts plan (nt + 1)).getD j tk0 = tkAt ts (plan.getD j sh0).run) := hide (doneT_at ts (by rw [HLp.out]; exact hlt) (by omega))
            have HBn : Hid (¬ badP ts (plan.getD j sh0) ⟨g, run, fr, tt⟩ → ∀ j', j' < j + 1 → ¬ badP ts (plan.getD j' sh0) ⟨g, run, fr, tt⟩) := fun h j' hj' => by
              rcases Nat.lt_or_ge j' j with h1 | h1
              · exact HBad.out j' h1
              · obtain rfl : j' = j := by omega
                exact h
            have HBy : Hid (badP ts (plan.getD j sh0) ⟨g, run, fr, tt⟩ → ¬ VaI ts ws plan nt) := fun h hv => HI3.out hv j hlt2 h
            generalize plan.getD j sh0 = qr at *
            obtain ⟨rg, rrun, rfr, rtt⟩ := qr
            have HBp : Hid (badP ts ⟨rg, rrun, rfr, rtt⟩ ⟨g, run, fr, tt⟩ ↔ (rfr < tt ∧ fr < rtt) ∧ (rg = g ∨ clashT ((doneT ts plan (nt + 1)).getD j tk0) ⟨arun, asec, awin, acl⟩ = true)) := hide (by unfold badP; rw [HDj.out]; simp only; rw [HE2.out])
            obtain ⟨A9', n9', c9', e9, _, _, _, hT9⟩ := HOi.out.nam HBi.out.size
            have hT9 : Tks wi wi.heap.size A9 (nt + 1) (doneT ts plan (nt + 1)) := by cases e9; exact hT9
            clear e9
            obtain ⟨ad3, z3, e3, hab3, hcl3, hz3⟩ := hT9.at_ (show j < nt + 1 by omega)
            have hb6 : ((doneT ts plan (nt + 1)).getD j tk0).cl.length ≤ 1000 := by
              have hi := doneT_at ts (plan := plan) (k := nt + 1) (j := j) (by rw [HLp.out]; omega) (by omega)
              rw [hi]
              unfold tkAt
              rw [List.getD_eq_getElem?_getD]
              cases hx : ts[(indI (runsT ts) (plan.getD j sh0).run).toNat]? with
              | none => simp [tk0]
              | some y => exact Nat.le_trans (HCl.out y (List.mem_of_getElem? hx)) (by omega)
            subst e3
            generalize (doneT ts plan (nt + 1)).getD j tk0 = bt at *
            obtain ⟨brun, bsec, bwin, bcl⟩ := bt
            have HEj : Hid (∀ W, Below wi.heap.size wi W → ∀ j' u, ([.int .i64 brun, .int .i64 bsec, .bool bwin, z3] : List Value)[j']? = some u → W.cell? ((ad3.add (j * 4)).add j') = some u) := fun W hb j' u hu => (hb.cell (by rw [block_of_add, block_of_add]; exact hab3)).trans (hcl3 j' u hu)
            have HCj : Hid (∀ i u, ([.int .i64 rg, .int .i64 rrun, .int .i64 rfr, .int .i64 rtt] : List Value)[i]? = some u → wi.cell? ((ad.add (j * 4)).add i) = some u) := hclj
            have HZ3 := Lib.hid hz3
            clear hclj hcl3 hz3 hT9 HDj
            go_upto_region 14 with (refine wpList_load_at 50 (.tmp 63) rfl rfl (ad.add (j * 4)) rfl [.int .i64 rg, .int .i64 rrun, .int .i64 rfr, .int .i64 rtt] HCj.out _ Try.underlying50 rfl (by kernel_rfl) ?_)
            have HBw6 := (Blk.new wi 50 #[.int .i64 rg, .int .i64 rrun, .int .i64 rfr, .int .i64 rtt])
            have HLw6 := (below_new wi (.cells #[.int .i64 rg, .int .i64 rrun, .int .i64 rfr, .int .i64 rtt] 50))
            have hsw6 : (wi.alloc (.cells #[.int .i64 rg, .int .i64 rrun, .int .i64 rfr, .int .i64 rtt] 50)).heap.size = wi.heap.size + 1 := by simp
            generalize wi.alloc (.cells #[.int .i64 rg, .int .i64 rrun, .int .i64 rfr, .int .i64 rtt] 50) = w6 at HBw6 HLw6 hsw6 ⊢
            replace HBw6 := Lib.hid HBw6
            replace HLw6 := Lib.hid HLw6
            have hlw6 : wi.heap.size < w6.heap.size := by omega
            replace hsw6 := Lib.hid hsw6
            have HB6 := Lib.hid (HBi.out.trans (HLw6.out.mono HBi.out.size))
            have HBi6 := Lib.hid HLw6.out
            have HBr6 := Lib.hid (HBr.out.trans (HLw6.out.mono HBr.out.size))
            have HY6 := HBw6
            have hy6 := hlw6
            have HX6 := Lib.hid (HXi.out.below HLw6.out hxi)
            have hx6 : wo.heap.size < w6.heap.size := Nat.lt_of_lt_of_le hxi HLw6.out.size
            clear HBw6 HLw6 hsw6 hlw6 HCj
            obtain ⟨b1, hb1⟩ : ∃ b, decide (rfr < tt) = b := ⟨_, rfl⟩
            obtain ⟨b2, hb2⟩ : ∃ b, decide (fr < rtt) = b := ⟨_, rfl⟩
            have HOv : Hid ((b1 && b2) = true ↔ (rfr < tt ∧ fr < rtt)) := hide (by rw [← hb1, ← hb2, Bool.and_eq_true, decide_eq_true_iff, decide_eq_true_iff])
            have r2 : w6.cell? ⟨wi.heap.size, 2, none⟩ = some (.int .i64 rfr) := HY6.out.cell 2
            have r3 : w6.cell? ⟨wi.heap.size, 3, none⟩ = some (.int .i64 rtt) := HY6.out.cell 3
            have s2 : w6.cell? ⟨wo.heap.size, 2, none⟩ = some (.int .i64 fr) := HX6.out.cell 2
            have s3 : w6.cell? ⟨wo.heap.size, 3, none⟩ = some (.int .i64 tt) := HX6.out.cell 3
            go_cut [13] (fun s wx => s = .bool (b1 && b2) ∧ w6 = wx)
            case first =>
              cases b1 with
              | true =>
                go_wp2_with fail
                go_meet
                exact ⟨rfl, rfl⟩
              | false =>
                go_wp2_with fail
                go_meet
                exact ⟨rfl, rfl⟩
            obtain ⟨rfl, rfl⟩ := hcut
            obtain ⟨ov, hov⟩ : ∃ b, (b1 && b2) = b := ⟨_, rfl⟩
            rw [hov] at HOv ⊢
            clear r2 r3 s2 s3 hb1 hb2 hov
            have HSS : Hid (∀ W, Below w6.heap.size w6 W → (fun W : World => (W.cell? ⟨wi.heap.size, 0, none⟩ = some (.int .i64 rg) ∧ W.cell? ⟨wo.heap.size, 0, none⟩ = some (.int .i64 g)) ∧ (∀ j' u, ([.int .i64 brun, .int .i64 bsec, .bool bwin, z3] : List Value)[j']? = some u → W.cell? ((ad3.add (j * 4)).add j') = some u) ∧ ∀ j' u, ([.int .i64 arun, .int .i64 asec, .bool awin, .slice Az nz cz] : List Value)[j']? = some u → W.cell? ((ad2.add (kn * 4)).add j') = some u) W) := fun W hb => ⟨⟨(HY6.out.below hb hy6).cell 0, (HX6.out.below hb hx6).cell 0⟩, HEj.out W (HBi6.out.trans (hb.mono HBi6.out.size)), HEl.out W (HB6.out.trans (hb.mono HB6.out.size))⟩
            have HBd : Hid (Below w6.heap.size w6 w6.drew) := hide (Below.refl _ _).drew
            have h0 := HSS.out _ HBd.out
            have hjl : (j : Int) < (nt : Int) + 1 := by omega
            go_upto_region 15 with (fail)
            go_cut [95] (fun s wx => ∃ q : Bool, s = .bool q ∧ (q = true ↔ badP ts ⟨rg, rrun, rfr, rtt⟩ ⟨g, run, fr, tt⟩) ∧ Below w6.heap.size w6 wx)
            case first =>
              cases ov with
              | false =>
                refine wp_region_held_drew (S := (fun W : World => (W.cell? ⟨wi.heap.size, 0, none⟩ = some (.int .i64 rg) ∧ W.cell? ⟨wo.heap.size, 0, none⟩ = some (.int .i64 g)) ∧ (∀ j' u, ([.int .i64 brun, .int .i64 bsec, .bool bwin, z3] : List Value)[j']? = some u → W.cell? ((ad3.add (j * 4)).add j') = some u) ∧ ∀ j' u, ([.int .i64 arun, .int .i64 asec, .bool awin, .slice Az nz cz] : List Value)[j']? = some u → W.cell? ((ad2.add (kn * 4)).add j') = some u)) (by kernel_rfl) (h0) (fun hHeld => ?_)
                refine held_run 0 (some 77) (.move (.tmp 13)) ?v15_61_62 (by rfl) (by kernel_rfl) (by kernel_rfl) (by kernel_rfl) (fun _ _ _ h => h) (fun o ho w hS => ?y15_61_62) (by assumption) ?r15_61_62
                case y15_61_62 => (try dsimp only at hS); unfold execOp; simp only [ho]; go_simp; try with_reducible rfl
                try simp only [Act.put, List.setIfInBounds_toArray, List.set_cons_zero, List.set_cons_succ]
                refine held_run 1 (some 78) (.move (.tmp 77)) ?v15_61_63 (by rfl) (by kernel_rfl) (by kernel_rfl) (by kernel_rfl) (fun _ _ _ h => h) (fun o ho w hS => ?y15_61_63) (by assumption) ?r15_61_63
                case y15_61_63 => (try dsimp only at hS); unfold execOp; simp only [ho]; go_simp; try with_reducible rfl
                try simp only [Act.put, List.setIfInBounds_toArray, List.set_cons_zero, List.set_cons_succ]
                refine held_skip 2 (some 79) (by rfl) (by kernel_rfl) (by kernel_rfl) (by kernel_rfl) (fun _ _ _ h => h) (by assumption) ?_
                try simp only [Act.put, List.setIfInBounds_toArray, List.set_cons_zero, List.set_cons_succ]
                refine held_skip 3 (some 80) (by rfl) (by kernel_rfl) (by kernel_rfl) (by kernel_rfl) (fun _ _ _ h => h) (by assumption) ?_
                try simp only [Act.put, List.setIfInBounds_toArray, List.set_cons_zero, List.set_cons_succ]
                refine held_skip 4 (some 81) (by rfl) (by kernel_rfl) (by kernel_rfl) (by kernel_rfl) (fun _ _ _ h => h) (by assumption) ?_
                try simp only [Act.put, List.setIfInBounds_toArray, List.set_cons_zero, List.set_cons_succ]
                refine held_skip 5 (some 82) (by rfl) (by kernel_rfl) (by kernel_rfl) (by kernel_rfl) (fun _ _ _ h => h) (by assumption) ?_
                try simp only [Act.put, List.setIfInBounds_toArray, List.set_cons_zero, List.set_cons_succ]
                refine held_skip 6 (some 83) (by rfl) (by kernel_rfl) (by kernel_rfl) (by kernel_rfl) (fun _ _ _ h => h) (by assumption) ?_
                try simp only [Act.put, List.setIfInBounds_toArray, List.set_cons_zero, List.set_cons_succ]
                refine held_skip 7 (some 84) (by rfl) (by kernel_rfl) (by kernel_rfl) (by kernel_rfl) (fun _ _ _ h => h) (by assumption) ?_
                try simp only [Act.put, List.setIfInBounds_toArray, List.set_cons_zero, List.set_cons_succ]
                refine held_skip 8 (some 85) (by rfl) (by kernel_rfl) (by kernel_rfl) (by kernel_rfl) (fun _ _ _ h => h) (by assumption) ?_
                try simp only [Act.put, List.setIfInBounds_toArray, List.set_cons_zero, List.set_cons_succ]
                refine held_skip 9 (some 86) (by rfl) (by kernel_rfl) (by kernel_rfl) (by kernel_rfl) (fun _ _ _ h => h) (by assumption) ?_
                try simp only [Act.put, List.setIfInBounds_toArray, List.set_cons_zero, List.set_cons_succ]
                refine held_skip 10 (some 87) (by rfl) (by kernel_rfl) (by kernel_rfl) (by kernel_rfl) (fun _ _ _ h => h) (by assumption) ?_
                try simp only [Act.put, List.setIfInBounds_toArray, List.set_cons_zero, List.set_cons_succ]
                refine held_skip 11 (some 88) (by rfl) (by kernel_rfl) (by kernel_rfl) (by kernel_rfl) (fun _ _ _ h => h) (by assumption) ?_
                try simp only [Act.put, List.setIfInBounds_toArray, List.set_cons_zero, List.set_cons_succ]
                refine held_skip 12 (some 89) (by rfl) (by kernel_rfl) (by kernel_rfl) (by kernel_rfl) (fun _ _ _ h => h) (by assumption) ?_
                try simp only [Act.put, List.setIfInBounds_toArray, List.set_cons_zero, List.set_cons_succ]
                refine held_skip 13 (some 90) (by rfl) (by kernel_rfl) (by kernel_rfl) (by kernel_rfl) (fun _ _ _ h => h) (by assumption) ?_
                try simp only [Act.put, List.setIfInBounds_toArray, List.set_cons_zero, List.set_cons_succ]
                refine held_skip 14 (some 91) (by rfl) (by kernel_rfl) (by kernel_rfl) (by kernel_rfl) (fun _ _ _ h => h) (by assumption) ?_
                try simp only [Act.put, List.setIfInBounds_toArray, List.set_cons_zero, List.set_cons_succ]
                refine held_skip 15 (some 92) (by rfl) (by kernel_rfl) (by kernel_rfl) (by kernel_rfl) (fun _ _ _ h => h) (by assumption) ?_
                try simp only [Act.put, List.setIfInBounds_toArray, List.set_cons_zero, List.set_cons_succ]
                refine held_skip 16 (some 93) (by rfl) (by kernel_rfl) (by kernel_rfl) (by kernel_rfl) (fun _ _ _ h => h) (by assumption) ?_
                try simp only [Act.put, List.setIfInBounds_toArray, List.set_cons_zero, List.set_cons_succ]
                refine held_skip 17 (some 94) (by rfl) (by kernel_rfl) (by kernel_rfl) (by kernel_rfl) (fun _ _ _ h => h) (by assumption) ?_
                try simp only [Act.put, List.setIfInBounds_toArray, List.set_cons_zero, List.set_cons_succ]
                refine held_run 18 (some 95) (.pick (.tmp 78) (.tmp 94) (.const (Value.bool false))) ?v15_61_80 (by rfl) (by kernel_rfl) (by kernel_rfl) (by kernel_rfl) (fun _ _ _ h => h) (fun o ho w hS => ?y15_61_80) (by assumption) ?r15_61_80
                case y15_61_80 => (try dsimp only at hS); unfold execOp; simp only [ho]; go_simp; try with_reducible rfl
                try simp only [Act.put, List.setIfInBounds_toArray, List.set_cons_zero, List.set_cons_succ]
                refine wpAnyH_done (by kernel_rfl) ?_ _
                go_wp2_with fail
                go_meet
                exact ⟨false, rfl, by rw [HBp.out, ← HOv.out]; simp, HBd.out⟩
              | true =>
                by_cases hg : rg = g
                · have d4 : (rg == g) = true := beq_iff_eq.2 hg
                  have HT : Hid (badP ts ⟨rg, rrun, rfr, rtt⟩ ⟨g, run, fr, tt⟩) := hide (HBp.out.2 ⟨HOv.out.1 rfl, .inl hg⟩)
                  clear hg
                  refine wp_region_held_drew (S := (fun W : World => (W.cell? ⟨wi.heap.size, 0, none⟩ = some (.int .i64 rg) ∧ W.cell? ⟨wo.heap.size, 0, none⟩ = some (.int .i64 g)) ∧ (∀ j' u, ([.int .i64 brun, .int .i64 bsec, .bool bwin, z3] : List Value)[j']? = some u → W.cell? ((ad3.add (j * 4)).add j') = some u) ∧ ∀ j' u, ([.int .i64 arun, .int .i64 asec, .bool awin, .slice Az nz cz] : List Value)[j']? = some u → W.cell? ((ad2.add (kn * 4)).add j') = some u)) (by kernel_rfl) (h0) (fun hHeld => ?_)
                  refine held_run 0 (some 77) (.move (.tmp 13)) ?v15_81_82 (by rfl) (by kernel_rfl) (by kernel_rfl) (by kernel_rfl) (fun _ _ _ h => h) (fun o ho w hS => ?y15_81_82) (by assumption) ?r15_81_82
                  case y15_81_82 => (try dsimp only at hS); unfold execOp; simp only [ho]; go_simp; try with_reducible rfl
                  try simp only [Act.put, List.setIfInBounds_toArray, List.set_cons_zero, List.set_cons_succ]
                  refine held_run 1 (some 78) (.move (.tmp 77)) ?v15_81_83 (by rfl) (by kernel_rfl) (by kernel_rfl) (by kernel_rfl) (fun _ _ _ h => h) (fun o ho w hS => ?y15_81_83) (by assumption) ?r15_81_83
                  case y15_81_83 => (try dsimp only at hS); unfold execOp; simp only [ho]; go_simp; try with_reducible rfl
                  try simp only [Act.put, List.setIfInBounds_toArray, List.set_cons_zero, List.set_cons_succ]
                  refine held_run 2 (some 79) (.fieldAddr 50 (.tmp 12) 0) ?v15_81_84 (by rfl) (by kernel_rfl) (by kernel_rfl) (by kernel_rfl) (fun _ _ _ h => h) (fun o ho w hS => ?y15_81_84) (by assumption) ?r15_81_84
                  case y15_81_84 => (try dsimp only at hS); unfold execOp; simp only [ho]; go_simp; try with_reducible rfl
                  try simp only [Act.put, List.setIfInBounds_toArray, List.set_cons_zero, List.set_cons_succ]
                  refine held_run 3 (some 80) (.load 3 (.tmp 79)) ?v15_81_85 (by rfl) (by kernel_rfl) (by kernel_rfl) (by kernel_rfl) (fun _ _ _ h => h) (fun o ho w hS => ?y15_81_85) (by assumption) ?r15_81_85
                  case y15_81_85 => (try dsimp only at hS); unfold execOp; simp only [ho]; go_simp; try with_reducible rfl
                  try simp only [Act.put, List.setIfInBounds_toArray, List.set_cons_zero, List.set_cons_succ]
                  refine held_run 4 (some 81) (.fieldAddr 50 (.tmp 9) 0) ?v15_81_86 (by rfl) (by kernel_rfl) (by kernel_rfl) (by kernel_rfl) (fun _ _ _ h => h) (fun o ho w hS => ?y15_81_86) (by assumption) ?r15_81_86
                  case y15_81_86 => (try dsimp only at hS); unfold execOp; simp only [ho]; go_simp; try with_reducible rfl
                  try simp only [Act.put, List.setIfInBounds_toArray, List.set_cons_zero, List.set_cons_succ]
                  refine held_run 5 (some 82) (.load 3 (.tmp 81)) ?v15_81_87 (by rfl) (by kernel_rfl) (by kernel_rfl) (by kernel_rfl) (fun _ _ _ h => h) (fun o ho w hS => ?y15_81_87) (by assumption) ?r15_81_87
                  case y15_81_87 => (try dsimp only at hS); unfold execOp; simp only [ho]; go_simp; try with_reducible rfl
                  try simp only [Act.put, List.setIfInBounds_toArray, List.set_cons_zero, List.set_cons_succ]
                  refine held_run 6 (some 83) (.binOp .eql 3 (.tmp 80) (.tmp 82) 3) ?v15_81_88 (by rfl) (by kernel_rfl) (by kernel_rfl) (by kernel_rfl) (fun _ _ _ h => h) (fun o ho w hS => ?y15_81_88) (by assumption) ?r15_81_88
                  case y15_81_88 => (try dsimp only at hS); unfold execOp; simp only [ho]; go_simp; try with_reducible rfl
                  try simp only [Act.put, List.setIfInBounds_toArray, List.set_cons_zero, List.set_cons_succ]
                  refine held_run 7 (some 84) (.move (.tmp 83)) ?v15_81_89 (by rfl) (by kernel_rfl) (by kernel_rfl) (by kernel_rfl) (fun _ _ _ h => h) (fun o ho w hS => ?y15_81_89) (by assumption) ?r15_81_89
                  case y15_81_89 => (try dsimp only at hS); unfold execOp; simp only [ho]; go_simp; try with_reducible rfl
                  try simp only [Act.put, List.setIfInBounds_toArray, List.set_cons_zero, List.set_cons_succ]
                  refine held_skip 8 (some 85) (by rfl) (by kernel_rfl) (by kernel_rfl) (by kernel_rfl) (fun _ _ _ h => h) (by assumption) ?_
                  try simp only [Act.put, List.setIfInBounds_toArray, List.set_cons_zero, List.set_cons_succ]
                  refine held_skip 9 (some 86) (by rfl) (by kernel_rfl) (by kernel_rfl) (by kernel_rfl) (fun _ _ _ h => h) (by assumption) ?_
                  try simp only [Act.put, List.setIfInBounds_toArray, List.set_cons_zero, List.set_cons_succ]
                  refine held_skip 10 (some 87) (by rfl) (by kernel_rfl) (by kernel_rfl) (by kernel_rfl) (fun _ _ _ h => h) (by assumption) ?_
                  try simp only [Act.put, List.setIfInBounds_toArray, List.set_cons_zero, List.set_cons_succ]
                  refine held_skip 11 (some 88) (by rfl) (by kernel_rfl) (by kernel_rfl) (by kernel_rfl) (fun _ _ _ h => h) (by assumption) ?_
                  try simp only [Act.put, List.setIfInBounds_toArray, List.set_cons_zero, List.set_cons_succ]
                  refine held_skip 12 (some 89) (by rfl) (by kernel_rfl) (by kernel_rfl) (by kernel_rfl) (fun _ _ _ h => h) (by assumption) ?_
                  try simp only [Act.put, List.setIfInBounds_toArray, List.set_cons_zero, List.set_cons_succ]
                  refine held_skip 13 (some 90) (by rfl) (by kernel_rfl) (by kernel_rfl) (by kernel_rfl) (fun _ _ _ h => h) (by assumption) ?_
                  try simp only [Act.put, List.setIfInBounds_toArray, List.set_cons_zero, List.set_cons_succ]
                  refine held_skip 14 (some 91) (by rfl) (by kernel_rfl) (by kernel_rfl) (by kernel_rfl) (fun _ _ _ h => h) (by assumption) ?_
                  try simp only [Act.put, List.setIfInBounds_toArray, List.set_cons_zero, List.set_cons_succ]
                  refine held_skip 15 (some 92) (by rfl) (by kernel_rfl) (by kernel_rfl) (by kernel_rfl) (fun _ _ _ h => h) (by assumption) ?_
                  try simp only [Act.put, List.setIfInBounds_toArray, List.set_cons_zero, List.set_cons_succ]
                  refine held_skip 16 (some 93) (by rfl) (by kernel_rfl) (by kernel_rfl) (by kernel_rfl) (fun _ _ _ h => h) (by assumption) ?_
                  try simp only [Act.put, List.setIfInBounds_toArray, List.set_cons_zero, List.set_cons_succ]
                  refine held_run 17 (some 94) (.pick (.tmp 84) (.const (Value.bool true)) (.tmp 93)) ?v15_81_99 (by rfl) (by kernel_rfl) (by kernel_rfl) (by kernel_rfl) (fun _ _ _ h => h) (fun o ho w hS => ?y15_81_99) (by assumption) ?r15_81_99
                  case y15_81_99 => (try dsimp only at hS); unfold execOp; simp only [ho]; go_simp; try with_reducible rfl
                  try simp only [Act.put, List.setIfInBounds_toArray, List.set_cons_zero, List.set_cons_succ]
                  refine held_run 18 (some 95) (.pick (.tmp 78) (.tmp 94) (.const (Value.bool false))) ?v15_81_100 (by rfl) (by kernel_rfl) (by kernel_rfl) (by kernel_rfl) (fun _ _ _ h => h) (fun o ho w hS => ?y15_81_100) (by assumption) ?r15_81_100
                  case y15_81_100 => (try dsimp only at hS); unfold execOp; simp only [ho]; go_simp; try with_reducible rfl
                  try simp only [Act.put, List.setIfInBounds_toArray, List.set_cons_zero, List.set_cons_succ]
                  refine wpAnyH_done (by kernel_rfl) ?_ _
                  go_wp2_with fail
                  go_meet
                  exact ⟨true, rfl, ⟨fun _ => HT.out, fun _ => rfl⟩, HBd.out⟩
                · have d4 : (rg == g) = false := beq_eq_false_iff_ne.2 hg
                  have HT : Hid (badP ts ⟨rg, rrun, rfr, rtt⟩ ⟨g, run, fr, tt⟩ ↔ clashT ⟨brun, bsec, bwin, bcl⟩ ⟨arun, asec, awin, acl⟩ = true) := hide (by rw [HBp.out]; exact ⟨fun h => h.2.resolve_left hg, fun h => ⟨HOv.out.1 rfl, .inr h⟩⟩)
                  clear hg
                  refine wp_region_held_drew (S := (fun W : World => (W.cell? ⟨wi.heap.size, 0, none⟩ = some (.int .i64 rg) ∧ W.cell? ⟨wo.heap.size, 0, none⟩ = some (.int .i64 g)) ∧ (∀ j' u, ([.int .i64 brun, .int .i64 bsec, .bool bwin, z3] : List Value)[j']? = some u → W.cell? ((ad3.add (j * 4)).add j') = some u) ∧ ∀ j' u, ([.int .i64 arun, .int .i64 asec, .bool awin, .slice Az nz cz] : List Value)[j']? = some u → W.cell? ((ad2.add (kn * 4)).add j') = some u)) (by kernel_rfl) (h0) (fun hHeld => ?_)
                  refine held_run 0 (some 77) (.move (.tmp 13)) ?v15_101_102 (by rfl) (by kernel_rfl) (by kernel_rfl) (by kernel_rfl) (fun _ _ _ h => h) (fun o ho w hS => ?y15_101_102) (by assumption) ?r15_101_102
                  case y15_101_102 => (try dsimp only at hS); unfold execOp; simp only [ho]; go_simp; try with_reducible rfl
                  try simp only [Act.put, List.setIfInBounds_toArray, List.set_cons_zero, List.set_cons_succ]
                  refine held_run 1 (some 78) (.move (.tmp 77)) ?v15_101_103 (by rfl) (by kernel_rfl) (by kernel_rfl) (by kernel_rfl) (fun _ _ _ h => h) (fun o ho w hS => ?y15_101_103) (by assumption) ?r15_101_103
                  case y15_101_103 => (try dsimp only at hS); unfold execOp; simp only [ho]; go_simp; try with_reducible rfl
                  try simp only [Act.put, List.setIfInBounds_toArray, List.set_cons_zero, List.set_cons_succ]
                  refine held_run 2 (some 79) (.fieldAddr 50 (.tmp 12) 0) ?v15_101_104 (by rfl) (by kernel_rfl) (by kernel_rfl) (by kernel_rfl) (fun _ _ _ h => h) (fun o ho w hS => ?y15_101_104) (by assumption) ?r15_101_104
                  case y15_101_104 => (try dsimp only at hS); unfold execOp; simp only [ho]; go_simp; try with_reducible rfl
                  try simp only [Act.put, List.setIfInBounds_toArray, List.set_cons_zero, List.set_cons_succ]
                  refine held_run 3 (some 80) (.load 3 (.tmp 79)) ?v15_101_105 (by rfl) (by kernel_rfl) (by kernel_rfl) (by kernel_rfl) (fun _ _ _ h => h) (fun o ho w hS => ?y15_101_105) (by assumption) ?r15_101_105
                  case y15_101_105 => (try dsimp only at hS); unfold execOp; simp only [ho]; go_simp; try with_reducible rfl
                  try simp only [Act.put, List.setIfInBounds_toArray, List.set_cons_zero, List.set_cons_succ]
                  refine held_run 4 (some 81) (.fieldAddr 50 (.tmp 9) 0) ?v15_101_106 (by rfl) (by kernel_rfl) (by kernel_rfl) (by kernel_rfl) (fun _ _ _ h => h) (fun o ho w hS => ?y15_101_106) (by assumption) ?r15_101_106
                  case y15_101_106 => (try dsimp only at hS); unfold execOp; simp only [ho]; go_simp; try with_reducible rfl
                  try simp only [Act.put, List.setIfInBounds_toArray, List.set_cons_zero, List.set_cons_succ]
                  refine held_run 5 (some 82) (.load 3 (.tmp 81)) ?v15_101_107 (by rfl) (by kernel_rfl) (by kernel_rfl) (by kernel_rfl) (fun _ _ _ h => h) (fun o ho w hS => ?y15_101_107) (by assumption) ?r15_101_107
                  case y15_101_107 => (try dsimp only at hS); unfold execOp; simp only [ho]; go_simp; try with_reducible rfl
                  try simp only [Act.put, List.setIfInBounds_toArray, List.set_cons_zero, List.set_cons_succ]
                  refine held_run 6 (some 83) (.binOp .eql 3 (.tmp 80) (.tmp 82) 3) ?v15_101_108 (by rfl) (by kernel_rfl) (by kernel_rfl) (by kernel_rfl) (fun _ _ _ h => h) (fun o ho w hS => ?y15_101_108) (by assumption) ?r15_101_108
                  case y15_101_108 => (try dsimp only at hS); unfold execOp; simp only [ho]; go_simp; try with_reducible rfl
                  try simp only [Act.put, List.setIfInBounds_toArray, List.set_cons_zero, List.set_cons_succ]
                  refine held_run 7 (some 84) (.move (.tmp 83)) ?v15_101_109 (by rfl) (by kernel_rfl) (by kernel_rfl) (by kernel_rfl) (fun _ _ _ h => h) (fun o ho w hS => ?y15_101_109) (by assumption) ?r15_101_109
                  case y15_101_109 => (try dsimp only at hS); unfold execOp; simp only [ho]; go_simp; try with_reducible rfl
                  try simp only [Act.put, List.setIfInBounds_toArray, List.set_cons_zero, List.set_cons_succ]
                  refine held_run 8 (some 85) (.move (.tmp 7)) ?v15_101_110 (by rfl) (by kernel_rfl) (by kernel_rfl) (by kernel_rfl) (fun _ _ _ h => h) (fun o ho w hS => ?y15_101_110) (by assumption) ?r15_101_110
                  case y15_101_110 => (try dsimp only at hS); unfold execOp; simp only [ho]; go_simp; try with_reducible rfl
                  try simp only [Act.put, List.setIfInBounds_toArray, List.set_cons_zero, List.set_cons_succ]
                  refine held_run 9 (some 86) (.move (.tmp 11)) ?v15_101_111 (by rfl) (by kernel_rfl) (by kernel_rfl) (by kernel_rfl) (fun _ _ _ h => h) (fun o ho w hS => ?y15_101_111) (by assumption) ?r15_101_111
                  case y15_101_111 => (try dsimp only at hS); unfold execOp; simp only [ho]; go_simp; try with_reducible rfl
                  try simp only [Act.put, List.setIfInBounds_toArray, List.set_cons_zero, List.set_cons_succ]
                  refine held_run 10 (some 87) (.indexAddr 22 (.tmp 85) (.tmp 86)) ?v15_101_112 (by rfl) (by kernel_rfl) (by kernel_rfl) (by kernel_rfl) (fun _ _ _ h => h) (fun o ho w hS => ?y15_101_112) (by assumption) ?r15_101_112
                  case y15_101_112 => (try dsimp only at hS); unfold execOp; simp only [ho]; go_simp; try with_reducible rfl
                  try simp only [Act.put, List.setIfInBounds_toArray, List.set_cons_zero, List.set_cons_succ]
                  refine held_load_at 11 (some 88) 34 (.tmp 87) (by rfl) (by kernel_rfl) (by kernel_rfl) (by kernel_rfl) ((ad3.add (j * 4))) [.int .i64 brun, .int .i64 bsec, .bool bwin, z3] (fun _ _ _ h => h) (by rfl) (fun _ h => h.2.1) _ Try.underlying34 rfl (by kernel_rfl) (by assumption) ?_
                  try simp only [Act.put, List.setIfInBounds_toArray, List.set_cons_zero, List.set_cons_succ]
                  refine held_run 12 (some 89) (.move (.tmp 0)) ?v15_101_114 (by rfl) (by kernel_rfl) (by kernel_rfl) (by kernel_rfl) (fun _ _ _ h => h) (fun o ho w hS => ?y15_101_114) (by assumption) ?r15_101_114
                  case y15_101_114 => (try dsimp only at hS); unfold execOp; simp only [ho]; go_simp; try with_reducible rfl
                  try simp only [Act.put, List.setIfInBounds_toArray, List.set_cons_zero, List.set_cons_succ]
                  refine held_run 13 (some 90) (.move (.tmp 10)) ?v15_101_115 (by rfl) (by kernel_rfl) (by kernel_rfl) (by kernel_rfl) (fun _ _ _ h => h) (fun o ho w hS => ?y15_101_115) (by assumption) ?r15_101_115
                  case y15_101_115 => (try dsimp only at hS); unfold execOp; simp only [ho]; go_simp; try with_reducible rfl
                  try simp only [Act.put, List.setIfInBounds_toArray, List.set_cons_zero, List.set_cons_succ]
                  refine held_run 14 (some 91) (.indexAddr 22 (.tmp 89) (.tmp 90)) ?v15_101_116 (by rfl) (by kernel_rfl) (by kernel_rfl) (by kernel_rfl) (fun _ _ _ h => h) (fun o ho w hS => ?y15_101_116) (by assumption) ?r15_101_116
                  case y15_101_116 => (try dsimp only at hS); unfold execOp; simp only [ho]; go_simp; try with_reducible rfl
                  try simp only [Act.put, List.setIfInBounds_toArray, List.set_cons_zero, List.set_cons_succ]
                  refine held_load_at 15 (some 92) 34 (.tmp 91) (by rfl) (by kernel_rfl) (by kernel_rfl) (by kernel_rfl) ((ad2.add (kn * 4))) [.int .i64 arun, .int .i64 asec, .bool awin, .slice Az nz cz] (fun _ _ _ h => h) (by rfl) (fun _ h => h.2.2) _ Try.underlying34 rfl (by kernel_rfl) (by assumption) ?_
                  try simp only [Act.put, List.setIfInBounds_toArray, List.set_cons_zero, List.set_cons_succ]
                  refine held_call 16 (some 93) 13 [(.tmp 88), (.tmp 92)] #[34, 34] #[.agg #[.int .i64 brun, .int .i64 bsec, .bool bwin, z3], .agg #[.int .i64 arun, .int .i64 asec, .bool awin, .slice Az nz cz]] (by rfl) (by rfl) (by kernel_rfl) Try.func13 (by rfl) (by rfl) ?_
                  refine (rclash_any ⟨brun, bsec, bwin, bcl⟩ ⟨arun, asec, awin, acl⟩ _ _ _ ⟨z3, rfl, HZ3.out.now (HBi6.out.trans (HBd.out.mono HBi6.out.size))⟩ ⟨_, rfl, (HZ.out.now (HB6.out.trans (HBd.out.mono HB6.out.size)))⟩ hb6 hcl6).mono ?_
                  rintro e we ⟨rfl, hb⟩
                  have HBe := Lib.hid (HBd.out.trans hb)
                  clear hb h0
                  have h0 := HSS.out _ HBe.out
                  refine ⟨_, rfl, h0, ?_⟩
                  try simp only [Act.put, List.setIfInBounds_toArray, List.set_cons_zero, List.set_cons_succ]
                  refine held_run 17 (some 94) (.pick (.tmp 84) (.const (Value.bool true)) (.tmp 93)) ?v15_101_119 (by rfl) (by kernel_rfl) (by kernel_rfl) (by kernel_rfl) (fun _ _ _ h => h) (fun o ho w hS => ?y15_101_119) (by assumption) ?r15_101_119
                  case y15_101_119 => (try dsimp only at hS); unfold execOp; simp only [ho]; go_simp; try with_reducible rfl
                  try simp only [Act.put, List.setIfInBounds_toArray, List.set_cons_zero, List.set_cons_succ]
                  refine held_run 18 (some 95) (.pick (.tmp 78) (.tmp 94) (.const (Value.bool false))) ?v15_101_120 (by rfl) (by kernel_rfl) (by kernel_rfl) (by kernel_rfl) (fun _ _ _ h => h) (fun o ho w hS => ?y15_101_120) (by assumption) ?r15_101_120
                  case y15_101_120 => (try dsimp only at hS); unfold execOp; simp only [ho]; go_simp; try with_reducible rfl
                  try simp only [Act.put, List.setIfInBounds_toArray, List.set_cons_zero, List.set_cons_succ]
                  refine wpAnyH_done (by kernel_rfl) ?_ _
                  go_wp2_with fail
                  go_meet
                  exact ⟨_, rfl, HT.out.symm, HBe.out⟩
            obtain ⟨q, rfl, hq, hcut⟩ := hcut
            obtain ⟨w7, rfl⟩ : ∃ wk : World, wk = wc := ⟨_, rfl⟩
            have HB7 := Lib.hid (HB6.out.trans (hcut.mono HB6.out.size))
            have HBr7 := Lib.hid (HBr6.out.trans (hcut.mono HBr6.out.size))
            have HQ := Lib.hid hq
            clear hq hcut h0 HSS HBd HY6 hy6 HX6 hx6 HB6 HBr6
            cases q with
            | true =>
              have HN : Hid (¬ VaP ts ws plan) := hide (HNa.out (HBy.out (HQ.out.1 rfl)))
              go_wp2_with fail
              try go_ret
              exact HNo.out _ HB7.out HN.out
            | false =>
              have HN := Lib.hid (HBn.out (fun h => by have := HQ.out.2 h; cases this))
              go_wp2_with fail
              go_roundg (nt - (j + 1))
              case measure => omega
              case rel => exact ⟨j + 1, by omega, by omega, by go_num, HN.out, HBr7.out⟩
          · obtain rfl : j = nt := by omega
            have HN := Lib.hid (HI2.out HOk.out HBad.out)
            have HV2 : Hid (∀ j', j' < j + 1 → VaI ts ws plan j') := fun j' hj' => by
              rcases Nat.lt_or_ge j' j with h1 | h1
              · exact HV.out j' h1
              · obtain rfl : j' = j := by omega
                exact HN.out
            go_wp2_with fail
            go_roundg (np - (j + 1))
            case measure => omega
            case rel => exact ⟨j + 1, by omega, by omega, by go_num, HV2.out, HOi.out, HBi.out⟩
    · obtain rfl : nt = np := by omega
      have HT : Hid (VaP ts ws plan) := hide ⟨by rw [HLp.out, HL.out], fun i hi => HV.out i (by rw [HLp.out] at hi; exact hi)⟩
      go_wp2_with fail
      try go_ret
      exact HYes.out _ HB.out HT.out
end Go.Proofs.Ytbegehooefhiiaa
