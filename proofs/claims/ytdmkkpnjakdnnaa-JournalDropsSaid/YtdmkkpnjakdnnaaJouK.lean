/-
  Chapter 29: Append of the program and of its reference, the comparing of rides, where a frame begins; walked.
-/
import Derived.Test.YtdmkkpnjakdnnaaJouJ
import Derived.Test.YtdmkkpnjakdnnaaJouP
namespace Go.Proofs.Ytdmkkpnjakdnnaa
open Go.RowKit

set_option maxRecDepth 100000 in
set_option maxHeartbeats 4000000 in
theorem rsame_any (v v' : Value) (l : List Rd) (w : World) (hv : StrV Rd.cells 7 w w.heap.size v l) (hv' : StrV Rd.cells 7 w w.heap.size v' l) :
    Calls Try.prog 17 #[v, v'] w fun e w' => e = .returned (.bool true) ∧ Below w.heap.size w w' := by
  obtain ⟨A, n, c, rfl, HL, h3, h4, hr⟩ := hv.nam
  obtain ⟨A', n', c', rfl, HL', _, _, hr'⟩ := hv'.nam
  obtain rfl : n' = n := by rw [← HL.out, HL'.out]
  have HR := Lib.hid hr
  have HR' := Lib.hid hr'
  have hn : n' ≤ maxLen := Nat.le_trans h3 h4
  unfold maxLen at hn
  have e1 : ((n' : Int) == (n' : Int)) = true := beq_self_eq_true _
  clear hv hv' hr hr' h3 h4 HL'
  go_enter Try.func17, Try.ntmps17
  go_wp2_with fail
  go_loopw [5] (fun i wr => ∃ k : Nat, k ≤ n' ∧ i = .int .i64 k ∧ Below w.heap.size w wr) (fun i _ => n' - (intOf i).toNat)
  case atStart => exact ⟨0, by omega, rfl, Below.refl _ _⟩
  case round =>
    obtain ⟨k, hk, rfl, hbr⟩ := hrel
    have HQ := Lib.hid hbr
    obtain ⟨wo, rfl⟩ : ∃ wo : World, wo = wr := ⟨_, rfl⟩
    have HRo := Lib.hid (HR.out.now hbr)
    have HR'o := Lib.hid (HR'.out.now hbr)
    clear hbr
    by_cases hlt : k < n'
    · obtain ⟨ad, rfl, hab, hcs⟩ := strs_at HRo.out (fun _ => rfl) HL.out hlt rd0
      obtain ⟨ad', rfl, hab', hcs'⟩ := strs_at HR'o.out (fun _ => rfl) HL.out hlt rd0
      generalize l.getD k rd0 = q at *
      obtain ⟨gate, seq, ser, cnt, prod, lift, att⟩ := q
      have hd0 : ∀ j u, ([.int .i64 gate, .int .i64 seq, .int .i64 ser, .int .i64 cnt, .int .i64 prod, .int .i64 lift, .int .i64 att] : List Value)[j]? = some u → wo.cell? ((ad.add (k * 7)).add j) = some u := hcs
      have hd1 : ∀ j u, ([.int .i64 gate, .int .i64 seq, .int .i64 ser, .int .i64 cnt, .int .i64 prod, .int .i64 lift, .int .i64 att] : List Value)[j]? = some u → wo.cell? ((ad'.add (k * 7)).add j) = some u := hcs'
      clear hcs hcs'
      go_wp2_with fail
      refine wp_region_held_drew (S := fun W => (∀ j u, ([.int .i64 gate, .int .i64 seq, .int .i64 ser, .int .i64 cnt, .int .i64 prod, .int .i64 lift, .int .i64 att] : List Value)[j]? = some u → W.cell? ((ad.add (k * 7)).add j) = some u) ∧ (∀ j u, ([.int .i64 gate, .int .i64 seq, .int .i64 ser, .int .i64 cnt, .int .i64 prod, .int .i64 lift, .int .i64 att] : List Value)[j]? = some u → W.cell? ((ad'.add (k * 7)).add j) = some u)) (by kernel_rfl) (⟨hd0, hd1⟩) (fun hHeld => ?_)
      refine held_run 0 (some 17) (.move (.tmp 0)) ?v6_1_2 (by rfl) (by kernel_rfl) (by kernel_rfl) (by kernel_rfl) (fun _ _ _ h => h) (fun o ho w hS => ?y6_1_2) (by assumption) ?r6_1_2
      case y6_1_2 => (try dsimp only at hS); unfold execOp; simp only [ho]; go_simp; try with_reducible rfl
      try simp only [Act.put, List.setIfInBounds_toArray, List.set_cons_zero, List.set_cons_succ]
      refine held_run 1 (some 18) (.move (.tmp 5)) ?v6_1_3 (by rfl) (by kernel_rfl) (by kernel_rfl) (by kernel_rfl) (fun _ _ _ h => h) (fun o ho w hS => ?y6_1_3) (by assumption) ?r6_1_3
      case y6_1_3 => (try dsimp only at hS); unfold execOp; simp only [ho]; go_simp; try with_reducible rfl
      try simp only [Act.put, List.setIfInBounds_toArray, List.set_cons_zero, List.set_cons_succ]
      refine held_run 2 (some 19) (.indexAddr 22 (.tmp 17) (.tmp 18)) ?v6_1_4 (by rfl) (by kernel_rfl) (by kernel_rfl) (by kernel_rfl) (fun _ _ _ h => h) (fun o ho w hS => ?y6_1_4) (by assumption) ?r6_1_4
      case y6_1_4 => (try dsimp only at hS); unfold execOp; simp only [ho]; go_simp; try with_reducible rfl
      try simp only [Act.put, List.setIfInBounds_toArray, List.set_cons_zero, List.set_cons_succ]
      refine held_load_at 3 (some 20) 30 (.tmp 19) (by rfl) (by kernel_rfl) (by kernel_rfl) (by kernel_rfl) (ad.add (k * 7)) ([.int .i64 gate, .int .i64 seq, .int .i64 ser, .int .i64 cnt, .int .i64 prod, .int .i64 lift, .int .i64 att] : List Value) (fun _ _ _ h => h) (by rfl) (fun _ h => h.1) _ Try.underlying30 rfl (by kernel_rfl) (by assumption) ?_
      try simp only [Act.put, List.setIfInBounds_toArray, List.set_cons_zero, List.set_cons_succ]
      refine held_run 4 (some 21) (.move (.tmp 1)) ?v6_1_6 (by rfl) (by kernel_rfl) (by kernel_rfl) (by kernel_rfl) (fun _ _ _ h => h) (fun o ho w hS => ?y6_1_6) (by assumption) ?r6_1_6
      case y6_1_6 => (try dsimp only at hS); unfold execOp; simp only [ho]; go_simp; try with_reducible rfl
      try simp only [Act.put, List.setIfInBounds_toArray, List.set_cons_zero, List.set_cons_succ]
      refine held_run 5 (some 22) (.move (.tmp 5)) ?v6_1_7 (by rfl) (by kernel_rfl) (by kernel_rfl) (by kernel_rfl) (fun _ _ _ h => h) (fun o ho w hS => ?y6_1_7) (by assumption) ?r6_1_7
      case y6_1_7 => (try dsimp only at hS); unfold execOp; simp only [ho]; go_simp; try with_reducible rfl
      try simp only [Act.put, List.setIfInBounds_toArray, List.set_cons_zero, List.set_cons_succ]
      refine held_run 6 (some 23) (.indexAddr 22 (.tmp 21) (.tmp 22)) ?v6_1_8 (by rfl) (by kernel_rfl) (by kernel_rfl) (by kernel_rfl) (fun _ _ _ h => h) (fun o ho w hS => ?y6_1_8) (by assumption) ?r6_1_8
      case y6_1_8 => (try dsimp only at hS); unfold execOp; simp only [ho]; go_simp; try with_reducible rfl
      try simp only [Act.put, List.setIfInBounds_toArray, List.set_cons_zero, List.set_cons_succ]
      refine held_load_at 7 (some 24) 30 (.tmp 23) (by rfl) (by kernel_rfl) (by kernel_rfl) (by kernel_rfl) (ad'.add (k * 7)) ([.int .i64 gate, .int .i64 seq, .int .i64 ser, .int .i64 cnt, .int .i64 prod, .int .i64 lift, .int .i64 att] : List Value) (fun _ _ _ h => h) (by rfl) (fun _ h => h.2) _ Try.underlying30 rfl (by kernel_rfl) (by assumption) ?_
      try simp only [Act.put, List.setIfInBounds_toArray, List.set_cons_zero, List.set_cons_succ]
      refine held_run 8 (some 25) (.binOp .neq 30 (.tmp 20) (.tmp 24) 30) ?v6_1_10 (by rfl) (by kernel_rfl) (by kernel_rfl) (by kernel_rfl) (fun _ _ _ h => h) (fun o ho w hS => ?y6_1_10) (by assumption) ?r6_1_10
      case y6_1_10 => (try dsimp only at hS); unfold execOp; simp only [ho]; go_simp; try with_reducible rfl
      try simp only [Act.put, List.setIfInBounds_toArray, List.set_cons_zero, List.set_cons_succ]
      refine wpAnyH_done (by kernel_rfl) ?_ _
      clear hd0 hd1
      go_wp2_with fail
      go_roundw
      case rel => exact ⟨k + 1, by omega, by go_num, HQ.out.drew⟩
      case measure => simp [intOf]; omega
    · obtain rfl : k = n' := by omega
      go_wp2_with fail
      go_ret
      exact ⟨rfl, HQ.out⟩

/-- what Append returns -/
def appG (b : List UInt8) (r : Rd) : List UInt8 × Nat := if (scanR 0 b).2.1 ≠ b.length then ([], 3) else if okB r = false then ([], 2) else (b ++ frmR (scanR 0 b).2.2 r, 0)
theorem appG_of {b : List UInt8} {r : Rd} {l : List Rd} {s lk : Nat} {ok : Bool} (h : scanR 0 b = (l, s, lk)) (hok : okB r = ok) : appG b r = if s ≠ b.length then ([], 3) else if ok = false then ([], 2) else (b ++ frmR lk r, 0) := by
  unfold appG
  rw [h, hok]
theorem scan_lt {b : List UInt8} {l : List Rd} {s lk : Nat} (h : scanR 0 b = (l, s, lk)) : lk < 18446744073709551616 ∧ s ≤ b.length := by
  obtain ⟨l', s', h1, _, _, h2, _⟩ := scanR_form b.length 0 b (Nat.le_refl _)
  rw [h] at h1
  simp only [Prod.mk.injEq] at h1
  obtain ⟨rfl, rfl, rfl⟩ := h1
  exact ⟨lkR_lt _ _ (by omega), h2⟩

set_option maxRecDepth 100000 in
set_option maxHeartbeats 4000000 in
theorem Append_any (A : Option Addr) (n c : Nat) (b : List UInt8) (r : Rd) (w : World) (hr : Bytes w w.heap.size A n b) (hn : n ≤ 1000000) (hc : n ≤ c) (hc2 : c ≤ maxLen) :
    Calls Try.prog 13 #[.slice A n c, .agg #[.int .i64 r.gate, .int .i64 r.seq, .int .i64 r.ser, .int .i64 r.cnt, .int .i64 r.prod, .int .i64 r.lift, .int .i64 r.att]] w fun e w' => ∃ v, e = .returned (.tuple #[v, .int .i64 (((appG b r).2 : Nat) : Int)]) ∧ OwnB w' w.heap.size v (appG b r).1 ∧ Below w.heap.size w w' := by
  obtain ⟨l, s, lk, hT⟩ : ∃ l s lk, scanR 0 b = (l, s, lk) := ⟨_, _, _, rfl⟩
  obtain ⟨ok, hok⟩ : ∃ x, okB r = x := ⟨_, rfl⟩
  obtain ⟨hlk, hsn⟩ := scan_lt hT
  rw [hr.blen] at hsn
  have HG := Lib.hid (appG_of hT hok)
  have HR := Lib.hid hr
  have HL := Lib.hid hr.blen
  have HT := Lib.hid hT
  have HOk := Lib.hid hok
  have HIn : Hid (∀ W, Calls Try.prog 24 #[.agg #[.int .i64 r.gate, .int .i64 r.seq, .int .i64 r.ser, .int .i64 r.cnt, .int .i64 r.prod, .int .i64 r.lift, .int .i64 r.att]] W fun e w' => e = .returned (.bool ok) ∧ Below W.heap.size W w') := fun W => by rw [← hok]; exact inRange_any r W
  have HWr : Hid (∀ (base : Nat) (vb : Value) (W : World), OwnB W base vb b → base ≤ W.heap.size → ok = true → Calls Try.prog 25 #[vb, .agg #[.int .i64 r.gate, .int .i64 r.seq, .int .i64 r.ser, .int .i64 r.cnt, .int .i64 r.prod, .int .i64 r.lift, .int .i64 r.att], .int .u64 (lk : Int)] W fun e w' => ∃ v, e = .returned (.tuple #[v, .int .u64 ((lnkR lk r : Nat) : Int)]) ∧ OwnB w' base v (b ++ frmR lk r) ∧ Below base W w') := fun base vb W h1 h2 h3 => write_any base vb b lk r W h1 h2 (by rw [HL.out]; omega) hlk (by rw [hok, h3])
  generalize appG b r = ag at *
  generalize frmR lk r = fr at *
  generalize lnkR lk r = ln at *
  clear hr hT hok
  obtain ⟨gate, seq, ser, cnt, prod, lift, att⟩ := r
  go_enter Try.func13, Try.ntmps13
  go_wp2_with fail
  have HBw0 := (Blk.new w 30 #[.int .i64 gate, .int .i64 seq, .int .i64 ser, .int .i64 cnt, .int .i64 prod, .int .i64 lift, .int .i64 att])
  have HLw0 := (below_new w (.cells #[.int .i64 gate, .int .i64 seq, .int .i64 ser, .int .i64 cnt, .int .i64 prod, .int .i64 lift, .int .i64 att] 30))
  have hsw0 : (w.alloc (.cells #[.int .i64 gate, .int .i64 seq, .int .i64 ser, .int .i64 cnt, .int .i64 prod, .int .i64 lift, .int .i64 att] 30)).heap.size = w.heap.size + 1 := by simp
  generalize w.alloc (.cells #[.int .i64 gate, .int .i64 seq, .int .i64 ser, .int .i64 cnt, .int .i64 prod, .int .i64 lift, .int .i64 att] 30) = w0 at HBw0 HLw0 hsw0 ⊢
  replace HBw0 := Lib.hid HBw0
  replace HLw0 := Lib.hid HLw0
  have hlw0 : w.heap.size < w0.heap.size := by omega
  replace hsw0 := Lib.hid hsw0
  have HR0 := Lib.hid (HR.out.now HLw0.out)
  with_reducible refine (scan_any A n c b l s lk _ HR0.out hn hc hc2 HT.out).mono ?_
  rintro e w1 ⟨v1, rfl, _, hb1⟩
  have HB1 := Lib.hid (HLw0.out.trans (hb1.mono HLw0.out.size))
  have HX1 := Lib.hid (HBw0.out.below hb1 hlw0)
  have HR1 := Lib.hid (HR0.out.now hb1)
  have hlx1 : w.heap.size < w1.heap.size := HX1.out.lt
  clear hb1
  by_cases hs : s = n
  · have hq : ((s : Int) != (n : Int)) = false := by simp; omega
    go_wp2_with (refine wpList_load_g 30 (.tmp 3) rfl rfl w.heap.size rfl _ _ HX1.out _ Try.underlying30 rfl (by kernel_rfl) ?_)
    with_reducible refine (HIn.out _).mono ?_
    rintro e w2 ⟨rfl, hb2⟩
    have HB2 := Lib.hid (HB1.out.trans (hb2.mono HB1.out.size))
    have HX2 := Lib.hid (HX1.out.below hb2 hlx1)
    have HR2 := Lib.hid (HR1.out.now hb2)
    have hlx2 : w.heap.size < w2.heap.size := HX2.out.lt
    clear hb2
    cases ok with
    | false =>
      have HE : Hid (ag = ([], 2)) := by rw [HG.out, if_neg (by rw [HL.out]; simpa using hs), if_pos rfl]; exact hide rfl
      go_wp2_with fail
      go_ret2
      exact ⟨_, by rw [HE.out]; rfl, by rw [HE.out]; exact OwnB.nil _ _, HB2.out⟩
    | true =>
      have HE : Hid (ag = (b ++ fr, 0)) := by rw [HG.out, if_neg (by rw [HL.out]; simpa using hs), if_neg (by simp)]; exact hide rfl
      go_wp2_with fail
      have HX2d : Hid (Blk w2.drew w.heap.size 30 #[.int .i64 gate, .int .i64 seq, .int .i64 ser, .int .i64 cnt, .int .i64 prod, .int .i64 lift, .int .i64 att]) := HX2
      have HR2d : Hid (Bytes w2.drew w2.drew.heap.size A n b) := hide HR2.out
      refine wp_region_held_drew (S := fun W => Blk W w.heap.size 30 #[.int .i64 gate, .int .i64 seq, .int .i64 ser, .int .i64 cnt, .int .i64 prod, .int .i64 lift, .int .i64 att]) (by kernel_rfl) (HX2d.out) (fun hHeld => ?_)
      refine held_run 0 (some 25) (.move (.tmp 0)) ?v6_11_12 (by rfl) (by kernel_rfl) (by kernel_rfl) (by kernel_rfl) (fun _ _ _ h => h) (fun o ho w hS => ?y6_11_12) (by assumption) ?r6_11_12
      case y6_11_12 => (try dsimp only at hS); unfold execOp; simp only [ho]; go_simp; try with_reducible rfl
      try simp only [Act.put, List.setIfInBounds_toArray, List.set_cons_zero, List.set_cons_succ]
      refine held_load 2 (some 27) 30 (.tmp 3) (by rfl) (by kernel_rfl) (by kernel_rfl) (by kernel_rfl) (w.heap.size) 30 #[.int .i64 gate, .int .i64 seq, .int .i64 ser, .int .i64 cnt, .int .i64 prod, .int .i64 lift, .int .i64 att] (fun _ _ _ h => h) (by rfl) (fun _ h => h) _ Try.underlying30 rfl (by kernel_rfl) (by assumption) ?_
      try simp only [Act.put, List.setIfInBounds_toArray, List.set_cons_zero, List.set_cons_succ]
      refine held_run 3 (some 28) (.move (.tmp 8)) ?v6_11_14 (by rfl) (by kernel_rfl) (by kernel_rfl) (by kernel_rfl) (fun _ _ _ h => h) (fun o ho w hS => ?y6_11_14) (by assumption) ?r6_11_14
      case y6_11_14 => (try dsimp only at hS); unfold execOp; simp only [ho]; go_simp; try with_reducible rfl
      try simp only [Act.put, List.setIfInBounds_toArray, List.set_cons_zero, List.set_cons_succ]
      refine held_call 1 (some 26) 29 [(.tmp 25)] #[24] #[.slice A n c] (by rfl) (by rfl) (by kernel_rfl) Try.func29 (by rfl) (by rfl) ?_
      refine (clone_b A n c _ b _ HR2d.out (by omega) (Nat.le_refl _)).mono ?_
      rintro e w3 ⟨v3, rfl, hown3, hb3⟩
      have HB3 := Lib.hid (HB2.out.drew.trans (hb3.mono HB2.out.size))
      have HX3 := Lib.hid (HX2d.out.below hb3 hlx2)
      have hlx3 : w.heap.size < w3.heap.size := HX3.out.lt
      have HO3 : Hid (OwnB w3 (w.heap.size + 1) v3 b) := hide (hown3.mono hlx2)
      clear hown3 hb3
      refine ⟨_, rfl, HX3.out, ?_⟩
      try simp only [Act.put, List.setIfInBounds_toArray, List.set_cons_zero, List.set_cons_succ]
      refine held_call 4 (some 29) 25 [(.tmp 26), (.tmp 27), (.tmp 28)] #[24, 30, 37] #[v3, .agg #[.int .i64 gate, .int .i64 seq, .int .i64 ser, .int .i64 cnt, .int .i64 prod, .int .i64 lift, .int .i64 att], .int .u64 (lk : Int)] (by rfl) (by rfl) (by kernel_rfl) Try.func25 (by rfl) (by rfl) ?_
      refine (HWr.out (w.heap.size + 1) v3 _ HO3.out hlx3 trivial).mono ?_
      rintro e w4 ⟨v4, rfl, hown4, hb4⟩
      have HB4 := Lib.hid (HB3.out.trans (hb4.mono (Nat.le_succ _)))
      have HX4 := Lib.hid (HX3.out.below hb4 (Nat.lt_succ_self _))
      have HO4 := Lib.hid hown4
      clear hown4 hb4
      refine ⟨_, rfl, HX4.out, ?_⟩
      try simp only [Act.put, List.setIfInBounds_toArray, List.set_cons_zero, List.set_cons_succ]
      refine held_run 5 (some 24) (.move (.tmp 29)) ?v6_11_17 (by rfl) (by kernel_rfl) (by kernel_rfl) (by kernel_rfl) (fun _ _ _ h => h) (fun o ho w hS => ?y6_11_17) (by assumption) ?r6_11_17
      case y6_11_17 => (try dsimp only at hS); unfold execOp; simp only [ho]; go_simp; try with_reducible rfl
      try simp only [Act.put, List.setIfInBounds_toArray, List.set_cons_zero, List.set_cons_succ]
      refine held_run 6 (some 30) (.extract (.tmp 24) 0) ?v6_11_18 (by rfl) (by kernel_rfl) (by kernel_rfl) (by kernel_rfl) (fun _ _ _ h => h) (fun o ho w hS => ?y6_11_18) (by assumption) ?r6_11_18
      case y6_11_18 => (try dsimp only at hS); unfold execOp; simp only [ho]; go_simp; try with_reducible rfl
      try simp only [Act.put, List.setIfInBounds_toArray, List.set_cons_zero, List.set_cons_succ]
      refine held_run 7 (some 31) (.extract (.tmp 24) 1) ?v6_11_19 (by rfl) (by kernel_rfl) (by kernel_rfl) (by kernel_rfl) (fun _ _ _ h => h) (fun o ho w hS => ?y6_11_19) (by assumption) ?r6_11_19
      case y6_11_19 => (try dsimp only at hS); unfold execOp; simp only [ho]; go_simp; try with_reducible rfl
      try simp only [Act.put, List.setIfInBounds_toArray, List.set_cons_zero, List.set_cons_succ]
      refine held_run 8 (some 9) (.assign (.tmp 30)) ?v6_11_20 (by rfl) (by kernel_rfl) (by kernel_rfl) (by kernel_rfl) (fun _ _ _ h => h) (fun o ho w hS => ?y6_11_20) (by assumption) ?r6_11_20
      case y6_11_20 => (try dsimp only at hS); unfold execOp; simp only [ho]; go_simp; try with_reducible rfl
      try simp only [Act.put, List.setIfInBounds_toArray, List.set_cons_zero, List.set_cons_succ]
      refine held_run 9 (some 10) (.assign (.tmp 31)) ?v6_11_21 (by rfl) (by kernel_rfl) (by kernel_rfl) (by kernel_rfl) (fun _ _ _ h => h) (fun o ho w hS => ?y6_11_21) (by assumption) ?r6_11_21
      case y6_11_21 => (try dsimp only at hS); unfold execOp; simp only [ho]; go_simp; try with_reducible rfl
      try simp only [Act.put, List.setIfInBounds_toArray, List.set_cons_zero, List.set_cons_succ]
      refine wpAnyH_done (by kernel_rfl) ?_ _
      go_wp2_with fail
      go_ret2
      exact ⟨_, by rw [HE.out]; rfl, by rw [HE.out]; exact HO4.out.mono (Nat.le_succ _), HB4.out⟩
  · have hq : ((s : Int) != (n : Int)) = true := by rw [bne_iff_ne]; omega
    have HE : Hid (ag = ([], 3)) := by rw [HG.out, if_pos (by rw [HL.out]; exact hs)]; exact hide rfl
    go_wp2_with fail
    go_ret2
    exact ⟨_, by rw [HE.out]; rfl, by rw [HE.out]; exact OwnB.nil _ _, HB1.out⟩

set_option maxRecDepth 100000 in
set_option maxHeartbeats 4000000 in
theorem rAppend_any (A : Option Addr) (n c : Nat) (b : List UInt8) (r : Rd) (w : World) (hr : Bytes w w.heap.size A n b) (hn : n ≤ 1000000) (hc : n ≤ c) (hc2 : c ≤ maxLen) :
    Calls Try.prog 14 #[.slice A n c, .agg #[.int .i64 r.gate, .int .i64 r.seq, .int .i64 r.ser, .int .i64 r.cnt, .int .i64 r.prod, .int .i64 r.lift, .int .i64 r.att]] w fun e w' => ∃ v, e = .returned (.tuple #[v, .int .i64 (((appG b r).2 : Nat) : Int)]) ∧ OwnB w' w.heap.size v (appG b r).1 ∧ Below w.heap.size w w' := by
  obtain ⟨l, s, lk, hT⟩ : ∃ l s lk, scanR 0 b = (l, s, lk) := ⟨_, _, _, rfl⟩
  obtain ⟨ok, hok⟩ : ∃ x, okB r = x := ⟨_, rfl⟩
  obtain ⟨hlk, hsn⟩ := scan_lt hT
  rw [hr.blen] at hsn
  have HG := Lib.hid (appG_of hT hok)
  have HR := Lib.hid hr
  have HL := Lib.hid hr.blen
  have HT := Lib.hid hT
  have HOk := Lib.hid hok
  have HIn : Hid (∀ W, Calls Try.prog 26 #[.agg #[.int .i64 r.gate, .int .i64 r.seq, .int .i64 r.ser, .int .i64 r.cnt, .int .i64 r.prod, .int .i64 r.lift, .int .i64 r.att]] W fun e w' => e = .returned (.bool ok) ∧ Below W.heap.size W w') := fun W => by rw [← hok]; exact rRight_any r W
  have HFl : Hid (ok = true → (frmR lk r).length ≤ 41) := fun h => (frmR_le lk (by rw [hok, h])).2
  have HWr : Hid (∀ (W : World), ok = true → Calls Try.prog 27 #[.int .u64 (lk : Int), .agg #[.int .i64 r.gate, .int .i64 r.seq, .int .i64 r.ser, .int .i64 r.cnt, .int .i64 r.prod, .int .i64 r.lift, .int .i64 r.att]] W fun e w' => ∃ v, e = .returned (.tuple #[v, .int .u64 ((lnkR lk r : Nat) : Int)]) ∧ OwnB w' W.heap.size v (frmR lk r) ∧ Below W.heap.size W w') := fun W h3 => rframe29_any lk r W hlk (by rw [hok, h3])
  generalize appG b r = ag at *
  generalize frmR lk r = fr at *
  generalize lnkR lk r = ln at *
  clear hr hT hok
  obtain ⟨gate, seq, ser, cnt, prod, lift, att⟩ := r
  go_enter Try.func14, Try.ntmps14
  go_wp2_with fail
  have HBw0 := (Blk.new w 30 #[.int .i64 gate, .int .i64 seq, .int .i64 ser, .int .i64 cnt, .int .i64 prod, .int .i64 lift, .int .i64 att])
  have HLw0 := (below_new w (.cells #[.int .i64 gate, .int .i64 seq, .int .i64 ser, .int .i64 cnt, .int .i64 prod, .int .i64 lift, .int .i64 att] 30))
  have hsw0 : (w.alloc (.cells #[.int .i64 gate, .int .i64 seq, .int .i64 ser, .int .i64 cnt, .int .i64 prod, .int .i64 lift, .int .i64 att] 30)).heap.size = w.heap.size + 1 := by simp
  generalize w.alloc (.cells #[.int .i64 gate, .int .i64 seq, .int .i64 ser, .int .i64 cnt, .int .i64 prod, .int .i64 lift, .int .i64 att] 30) = w0 at HBw0 HLw0 hsw0 ⊢
  replace HBw0 := Lib.hid HBw0
  replace HLw0 := Lib.hid HLw0
  have hlw0 : w.heap.size < w0.heap.size := by omega
  replace hsw0 := Lib.hid hsw0
  have HR0 := Lib.hid (HR.out.now HLw0.out)
  with_reducible refine (rread_any A n c b l s lk _ HR0.out hn hc hc2 HT.out).mono ?_
  rintro e w1 ⟨v1, rfl, _, hb1⟩
  have HB1 := Lib.hid (HLw0.out.trans (hb1.mono HLw0.out.size))
  have HX1 := Lib.hid (HBw0.out.below hb1 hlw0)
  have HR1 := Lib.hid (HR0.out.now hb1)
  have hlx1 : w.heap.size < w1.heap.size := HX1.out.lt
  clear hb1
  by_cases hs : s = n
  · have hq : ((s : Int) != (n : Int)) = false := by simp; omega
    go_wp2_with (refine wpList_load_g 30 (.tmp 3) rfl rfl w.heap.size rfl _ _ HX1.out _ Try.underlying30 rfl (by kernel_rfl) ?_)
    with_reducible refine (HIn.out _).mono ?_
    rintro e w2 ⟨rfl, hb2⟩
    have HB2 := Lib.hid (HB1.out.trans (hb2.mono HB1.out.size))
    have HX2 := Lib.hid (HX1.out.below hb2 hlx1)
    have HR2 := Lib.hid (HR1.out.now hb2)
    have hlx2 : w.heap.size < w2.heap.size := HX2.out.lt
    clear hb2
    cases ok with
    | false =>
      have HE : Hid (ag = ([], 2)) := by rw [HG.out, if_neg (by rw [HL.out]; simpa using hs), if_pos rfl]; exact hide rfl
      go_wp2_with fail
      go_ret2
      exact ⟨_, by rw [HE.out]; rfl, by rw [HE.out]; exact OwnB.nil _ _, HB2.out⟩
    | true =>
      have HE : Hid (ag = (b ++ fr, 0)) := by rw [HG.out, if_neg (by rw [HL.out]; simpa using hs), if_neg (by simp)]; exact hide rfl
      have hfl := HFl.out rfl
      go_wp2_with (refine wpList_load_g 30 (.tmp 3) rfl rfl w.heap.size rfl _ _ HX2.out _ Try.underlying30 rfl (by kernel_rfl) ?_)
      with_reducible refine (HWr.out _ trivial).mono ?_
      rintro e w3 ⟨v3, rfl, hown3, hb3⟩
      have HB3 := Lib.hid (HB2.out.trans (hb3.mono HB2.out.size))
      have HR3 := Lib.hid (HR2.out.now hb3)
      obtain ⟨A3, n3, c3, rfl, HN3, _, _, hr3⟩ := hown3.nam
      have hn3 : n3 ≤ 41 := by rw [← HN3.out]; exact hfl
      have HR33 := Lib.hid hr3
      have hsz3 := HB3.out.size
      clear hown3 hb3 hr3
      go_wp2_with (first
        | (at_builtin
           refine wpList_app _ ei_byte rfl (.tmp 30) (.tmp 31) rfl w3.heap.size (.slice (some ⟨w3.heap.size, 0, none⟩) 0 0) 0 [] rfl (World.ownsRow_lit w3 #[] 0 (Nat.le_refl _) (by simp [maxLen]) rfl) w3.heap.size A n c (b.map B8) rfl (HR3.out.alloc (Nat.le_refl _) _) (by intro u hu; obtain ⟨x, _, rfl⟩ := List.mem_map.1 hu; rfl) (by simp only [maxLen]; omega) (by omega) (by simp) ?_
           intro v4 w4 hown4 hg4 hbw4 hat4
           have hb4 : Below w3.heap.size w3 w4 := ((Below.refl _ _).alloc (Nat.le_refl _) _).trans hbw4
           have HB4 := Lib.hid (HB3.out.trans (hb4.mono HB3.out.size))
           have HO4 : Hid (w4.ownsRow w3.heap.size 5 1 v4 n (b.map B8)) := by
             rw [Nat.zero_add, List.nil_append] at hown4
             exact hide hown4
           have HR4 := Lib.hid (HR33.out.now hb4)
           have hsz4 : w3.heap.size ≤ w4.heap.size := hb4.size
           clear hown4 hg4 hbw4 hat4 hb4)
        | (at_builtin
           refine wpList_app _ ei_byte rfl (.tmp 32) (.tmp 33) rfl w3.heap.size v4 n (b.map B8) rfl HO4.out w4.heap.size A3 n3 c3 (fr.map B8) rfl HR4.out (by intro u hu; obtain ⟨x, _, rfl⟩ := List.mem_map.1 hu; rfl) (by simp only [maxLen]; omega) (by omega) hsz4 ?_
           intro v5 w5 hown5 hg5 hbw5 hat5
           have HB5 := Lib.hid (HB4.out.trans (hbw5.mono hsz3))
           have HO5 : Hid (OwnB w5 w3.heap.size v5 (b ++ fr)) := hide (OwnB.mk' hown5 (by rw [List.length_append, HL.out, HN3.out]) (by simp))
           clear hown5 hg5 hbw5 hat5))
      go_ret2
      exact ⟨_, by rw [HE.out]; rfl, by rw [HE.out]; exact HO5.out.mono hsz3, HB5.out⟩
  · have hq : ((s : Int) != (n : Int)) = true := by rw [bne_iff_ne]; omega
    have HE : Hid (ag = ([], 3)) := by rw [HG.out, if_pos (by rw [HL.out]; exact hs)]; exact hide rfl
    go_wp2_with fail
    go_ret2
    exact ⟨_, by rw [HE.out]; rfl, by rw [HE.out]; exact OwnB.nil _ _, HB1.out⟩
theorem slr_to (A : Option Addr) (n c k : Nat) (hk : k ≤ c) (W : World) : (Instr.sliceAt 22 (.slice A n c) none (some (.int .i64 (k : Int))) none).run Try.prog W = .ok (.slice A k c) W := by
  have hs : (sizeOf (Try.prog.elem 22)).run Try.prog W = .ok 7 W := by
    obtain ⟨i, hi, _, h1, _⟩ := info_parts (show (Try.prog.info? 30).map (fun i => (i.zero, i.size, i.bytes)) = some (some (.agg #[.int .i64 0, .int .i64 0, .int .i64 0, .int .i64 0, .int .i64 0, .int .i64 0, .int .i64 0]), 7, 56) by kernel_rfl)
    rw [show Try.prog.elem 22 = 30 by kernel_rfl]
    simp [sizeOf, typeInfo, hi, h1]
  rw [run_sliceAt_slice (P := Try.prog) (w := W) _ _ _ _ _ (by kernel_rfl), run_slice_h (P := Try.prog) (w := W) 22 A n c (by kernel_rfl) .i64 (k : Int) (by omega) (by omega), hs]
  have hz : ∀ a : Addr, a.add 0 = a := fun a => by unfold Addr.add; simp
  cases A <;> simp [sliced, Result.andThen, hz]
theorem take_strV {w : World} {B n c : Nat} {A : Option Addr} {l : List Rd} {k : Nat} (h : Strs Rd.cells 7 w B A n l) (hl : l.length = n) (hk : k ≤ n) (hc : n ≤ c) (hc2 : c ≤ maxLen) : StrV Rd.cells 7 w B (.slice A k c) (l.take k) :=
  strV_of (strs_front h (fun _ => rfl) hl hk) (by rw [List.length_take]; omega) (by omega) hc2
set_option maxRecDepth 100000 in
theorem begin_any (A : Option Addr) (n c k : Nat) (l : List Rd) (w : World) (hr : Strs Rd.cells 7 w w.heap.size A n l) (hl : l.length = n) (hc : n ≤ c) (hc2 : c ≤ maxLen) (hn : n ≤ 1000) (hk : k ≤ n) (hok : l.all okB = true) :
    Calls Try.prog 22 #[.slice A n c, .int .i64 (k : Int)] w fun e w' => e = .returned (.int .i64 ((begR l k : Nat) : Int)) ∧ Below w.heap.size w w' := by
  have hs := slr_to A n c k (by omega)
  have HV := Lib.hid (take_strV hr hl hk hc hc2)
  have HW : Hid (writeG (l.take k) = (wrR 0 (l.take k), 0)) := writeG_ok (List.all_eq_true.2 fun r hr => List.all_eq_true.1 hok r (List.mem_of_mem_take hr))
  have HLk : Hid ((l.take k).length ≤ 3000000000000) := by show _ ≤ _; rw [List.length_take]; omega
  clear hr
  go_enter Try.func22, Try.ntmps22
  go_wp2_with fail
  with_reducible refine (Write_any _ (l.take k) _ HV.out HLk.out).mono ?_
  rintro e w1 ⟨v1, rfl, hown1, hb1⟩
  rw [HW.out] at hown1 ⊢
  have HB1 := Lib.hid hb1
  obtain ⟨A1, n1, c1, rfl, HN1, _, _, _⟩ := hown1.nam
  clear hown1 hb1 hs
  go_wp2_with fail
  go_ret
  exact ⟨by rw [show begR l k = n1 from HN1.out]; rfl, HB1.out⟩
end Go.Proofs.Ytdmkkpnjakdnnaa
