/-
  Groom of chapter 45, of the program and of its reference, walked.
-/
import Derived.Test.YtegijfmdjaehjaaGruC
namespace Go.Proofs.Ytegijfmdjaehjaa
open Go.RowKit

theorem groomG_no {rs : List Rn} {l : List Gr} {id run s t : Int} (h : findG l id = -1) : groomG rs l id run s t = ([], 8) := by unfold groomG; rw [h]; rfl
theorem groomG_none {rs : List Rn} {l : List Gr} {id run s t : Int} (h : hasR rs run = false) : groomG rs l id run s t = ([], 8) := by unfold groomG; rw [if_pos (Or.inr h)]
theorem groomG_at {rs : List Rn} {l : List Gr} {id run s t : Int} {k : Nat} (h : findG l id = (k : Int)) (hr : hasR rs run = true) : groomG rs l id run s t = groomV (onG l run) l k (rnOf rs run) run s t := by
  unfold groomG
  rw [h, if_neg (by rintro (h | h); omega; rw [hr] at h; cases h)]
  simp
set_option maxRecDepth 100000 in
set_option maxHeartbeats 8000000 in
theorem ggroom_any (vn vl vr vb : Value) (rs : List Rn) (v : Value) (l : List Gr) (gi rg s_ t : Int) (w : World) (hr : StrV Rn.cells 7 w w.heap.size vr rs) (hv : GrV w w.heap.size v l) (hin : ∀ x ∈ l, inG x = true) (hlen : l.length ≤ 16) :
    Calls Try.prog 21 #[.agg #[vn, vl, vr, vb], v, .int .i64 gi, .int .i64 rg, .int .i64 s_, .int .i64 t] w (SdR (groomG rs l gi rg s_ t) w) := by
  obtain ⟨A, n, c, rfl, HN, h3, h4, hr'⟩ := hv.nam
  have HV := Lib.hid hv
  have HR := Lib.hid hr'
  have HRs := Lib.hid hr
  have HIn := Lib.hid hin
  have hn16 : n ≤ 16 := by rw [← HN.out]; exact hlen
  have HFin : Hid (∀ (ls : List Gr) (x : Int) (v' : Value) (w' : World), groomG rs l gi rg s_ t = (ls, x) → OwnGr w' w.heap.size v' ls → Below w.heap.size w w' → SdR (groomG rs l gi rg s_ t) w (.returned (.tuple #[v', .int .i64 x])) w') := fun ls x v' w' h1 h2 h3 => SdR.fin h1 h2 h3
  generalize SdR (groomG rs l gi rg s_ t) w = RR at *
  clear hr hv hr' hin
  go_enter Try.func21, Try.ntmps21
  go_wp2_with fail
  have HBwb := (Blk.new w 32 #[vn, vl, vr, vb])
  have HLwb := (below_new w (.cells #[vn, vl, vr, vb] 32))
  have hswb : (w.alloc (.cells #[vn, vl, vr, vb] 32)).heap.size = w.heap.size + 1 := by simp
  generalize w.alloc (.cells #[vn, vl, vr, vb] 32) = wb at HBwb HLwb hswb ⊢
  replace HBwb := Lib.hid HBwb
  replace HLwb := Lib.hid HLwb
  have hlwb : w.heap.size < wb.heap.size := by omega
  replace hswb := Lib.hid hswb
  have HWb := Lib.hid (HLwb.out)
  have hl0 : w.heap.size ≤ wb.heap.size := HWb.out.size
  have HBb : Hid (Below wb.heap.size wb wb) := hide (Below.refl _ _)
  have hszb : wb.heap.size ≤ wb.heap.size := Nat.le_refl _
  have HX0b : Hid (Blk wb w.heap.size 32 #[vn, vl, vr, vb]) := hide HBwb.out
  have hxx0 : w.heap.size < wb.heap.size := HX0b.out.lt
  clear HBwb HLwb hswb hlwb
  obtain ⟨z, hz⟩ : ∃ z, findG l gi = z := ⟨_, rfl⟩
  have HZ := Lib.hid hz
  clear hz
  with_reducible refine (gfind_any _ l gi wb (HV.out.now HWb.out)).mono ?_
  rintro e w1 ⟨rfl, hb1⟩
  have HB1 := Lib.hid (HBb.out.trans (hb1.mono hszb))
  have HW1 := Lib.hid (HWb.out.trans (hb1.mono HWb.out.size))
  have hsz1 : wb.heap.size ≤ w1.heap.size := Nat.le_trans hszb hb1.size
  have HX01 := Lib.hid (HX0b.out.below hb1 (Nat.lt_of_lt_of_le hxx0 hszb))
  clear hb1
  rw [HZ.out]
  go_wp2_with
    (first
     | (refine wpList_load_g 32 (.tmp 6) rfl rfl w.heap.size rfl _ _ HX01.out _ Try.underlying32 rfl (by kernel_rfl) ?_))
  with_reducible refine (prun_any _ _ _ _ rs rg w1 (HRs.out.now HW1.out)).mono ?_
  rintro e w2 ⟨rfl, hb2⟩
  have HB2 := Lib.hid (HB1.out.trans (hb2.mono hsz1))
  have HW2 := Lib.hid (HW1.out.trans (hb2.mono HW1.out.size))
  have hsz2 : wb.heap.size ≤ w2.heap.size := Nat.le_trans hsz1 hb2.size
  have HX02 := Lib.hid (HX01.out.below hb2 (Nat.lt_of_lt_of_le hxx0 hsz1))
  clear hb2
  obtain ⟨q, hq⟩ : ∃ q, rnOf rs rg = q := ⟨_, rfl⟩
  obtain ⟨rb, hrb⟩ : ∃ b, hasR rs rg = b := ⟨_, rfl⟩
  rw [hq, hrb]
  have HQ := Lib.hid hq
  have HRb := Lib.hid hrb
  clear hq hrb
  obtain ⟨rid, rop, rfr, rtt, rgr, rzn, rln⟩ := q
  go_upto_region 3 with (fail)
  have HBw3 := (Blk.new w2 56 #[.int .i64 rid, .int .i64 rop, .int .i64 rfr, .int .i64 rtt, .int .i64 rgr, .int .i64 rzn, .int .i64 rln])
  have HLw3 := (below_new w2 (.cells #[.int .i64 rid, .int .i64 rop, .int .i64 rfr, .int .i64 rtt, .int .i64 rgr, .int .i64 rzn, .int .i64 rln] 56))
  have hsw3 : (w2.alloc (.cells #[.int .i64 rid, .int .i64 rop, .int .i64 rfr, .int .i64 rtt, .int .i64 rgr, .int .i64 rzn, .int .i64 rln] 56)).heap.size = w2.heap.size + 1 := by simp
  generalize w2.alloc (.cells #[.int .i64 rid, .int .i64 rop, .int .i64 rfr, .int .i64 rtt, .int .i64 rgr, .int .i64 rzn, .int .i64 rln] 56) = w3 at HBw3 HLw3 hsw3 ⊢
  replace HBw3 := Lib.hid HBw3
  replace HLw3 := Lib.hid HLw3
  have hlw3 : w2.heap.size < w3.heap.size := by omega
  replace hsw3 := Lib.hid hsw3
  have hb3 := HLw3.out
  have HLr3 := HBw3
  clear HBw3 HLw3 hsw3 hlw3
  have HB3 := Lib.hid (HB2.out.trans (hb3.mono hsz2))
  have HW3 := Lib.hid (HW2.out.trans (hb3.mono HW2.out.size))
  have hsz3 : wb.heap.size ≤ w3.heap.size := Nat.le_trans hsz2 hb3.size
  have HX03 := Lib.hid (HX02.out.below hb3 (Nat.lt_of_lt_of_le hxx0 hsz2))
  clear hb3
  have hw1 : w.heap.size ≤ w3.heap.size := HW3.out.size
  rcases findG_cases l gi with hz | ⟨i, hz, hil, hid⟩
  · have HE := Lib.hid (groomG_no (rs := rs) (run := rg) (s := s_) (t := t) hz)
    rw [HZ.out] at hz
    subst hz
    go_wp2_with fail
    try go_ret2
    exact HFin.out [] 8 _ _ HE.out (OwnT.nil _ _ _ _ _) HW3.out
  · have hin : i < n := by rw [← HN.out]; exact hil
    have HAt := Lib.hid (groomG_at (rs := rs) (run := rg) (s := s_) (t := t) hz)
    rw [HZ.out] at hz
    subst hz
    cases rb with
    | false =>
      have HE := Lib.hid (groomG_none (l := l) (id := gi) (s := s_) (t := t) HRb.out)
      go_wp2_with fail
      try go_ret2
      exact HFin.out [] 8 _ _ HE.out (OwnT.nil _ _ _ _ _) HW3.out
    | true =>
      have HS := Lib.hid (HAt.out HRb.out)
      rw [HQ.out] at HS
      clear hid HAt
      obtain ⟨on, hon⟩ : ∃ b, onG l rg = b := ⟨_, rfl⟩
      have HOn := Lib.hid hon
      rw [hon] at HS
      unfold groomV at HS
      simp only at HS
      clear hon
      obtain ⟨ad, rfl, hab, hcl⟩ := strs_at (HR.out.below HW3.out) (fun _ => rfl) HN.out hin gr0
      have HIg := Lib.hid (inG_iff (HIn.out _ (gr_mem (l := l) (k := i) hil)))
      generalize l.getD i gr0 = q at *
      obtain ⟨id, nod, fuel, st, tg, run, til, win⟩ := q
      simp only at HIg HS
      have HCl : Hid (∀ j u, ([.int .i64 id, .int .i64 nod, .int .i64 fuel, .int .i64 st, .int .i64 tg, .int .i64 run, .int .i64 til, .bool win] : List Value)[j]? = some u → w3.cell? ((ad.add (i * 8)).add j) = some u) := hcl
      clear hcl
      go_upto_region 6 with (refine wpList_load_at 51 (.tmp 36) rfl rfl (ad.add (i * 8)) rfl [.int .i64 id, .int .i64 nod, .int .i64 fuel, .int .i64 st, .int .i64 tg, .int .i64 run, .int .i64 til, .bool win] HCl.out _ Try.underlying51 rfl (by kernel_rfl) ?_)
      have HBw4 := (Blk.new w3 51 #[.int .i64 id, .int .i64 nod, .int .i64 fuel, .int .i64 st, .int .i64 tg, .int .i64 run, .int .i64 til, .bool win])
      have HLw4 := (below_new w3 (.cells #[.int .i64 id, .int .i64 nod, .int .i64 fuel, .int .i64 st, .int .i64 tg, .int .i64 run, .int .i64 til, .bool win] 51))
      have hsw4 : (w3.alloc (.cells #[.int .i64 id, .int .i64 nod, .int .i64 fuel, .int .i64 st, .int .i64 tg, .int .i64 run, .int .i64 til, .bool win] 51)).heap.size = w3.heap.size + 1 := by simp
      generalize w3.alloc (.cells #[.int .i64 id, .int .i64 nod, .int .i64 fuel, .int .i64 st, .int .i64 tg, .int .i64 run, .int .i64 til, .bool win] 51) = w4 at HBw4 HLw4 hsw4 ⊢
      replace HBw4 := Lib.hid HBw4
      replace HLw4 := Lib.hid HLw4
      have hlw4 : w3.heap.size < w4.heap.size := by omega
      replace hsw4 := Lib.hid hsw4
      have hb4 := HLw4.out
      have HLg4 := HBw4
      clear HBw4 HLw4 hsw4 hlw4 HCl
      have HB4 := Lib.hid (HB3.out.trans (hb4.mono hsz3))
      have HW4 := Lib.hid (HW3.out.trans (hb4.mono HW3.out.size))
      have hsz4 : wb.heap.size ≤ w4.heap.size := Nat.le_trans hsz3 hb4.size
      have HX04 := Lib.hid (HX03.out.below hb4 (Nat.lt_of_lt_of_le hxx0 hsz3))
      have HLr4 := Lib.hid (HLr3.out.below hb4 HLr3.out.lt)
      clear hb4
      have c0 : w4.cell? ⟨w3.heap.size, 0, none⟩ = some (.int .i64 id) := HLg4.out.cell 0
      have c1 : w4.cell? ⟨w3.heap.size, 1, none⟩ = some (.int .i64 nod) := HLg4.out.cell 1
      have c2 : w4.cell? ⟨w3.heap.size, 2, none⟩ = some (.int .i64 fuel) := HLg4.out.cell 2
      have c3 : w4.cell? ⟨w3.heap.size, 3, none⟩ = some (.int .i64 st) := HLg4.out.cell 3
      have c4 : w4.cell? ⟨w3.heap.size, 4, none⟩ = some (.int .i64 tg) := HLg4.out.cell 4
      have c5 : w4.cell? ⟨w3.heap.size, 5, none⟩ = some (.int .i64 run) := HLg4.out.cell 5
      have c6 : w4.cell? ⟨w3.heap.size, 6, none⟩ = some (.int .i64 til) := HLg4.out.cell 6
      have c7 : w4.cell? ⟨w3.heap.size, 7, none⟩ = some (.bool win) := HLg4.out.cell 7
      have r0 : w4.cell? ⟨w2.heap.size, 0, none⟩ = some (.int .i64 rid) := HLr4.out.cell 0
      have r1 : w4.cell? ⟨w2.heap.size, 1, none⟩ = some (.int .i64 rop) := HLr4.out.cell 1
      have r2 : w4.cell? ⟨w2.heap.size, 2, none⟩ = some (.int .i64 rfr) := HLr4.out.cell 2
      have r3 : w4.cell? ⟨w2.heap.size, 3, none⟩ = some (.int .i64 rtt) := HLr4.out.cell 3
      have r4 : w4.cell? ⟨w2.heap.size, 4, none⟩ = some (.int .i64 rgr) := HLr4.out.cell 4
      have r5 : w4.cell? ⟨w2.heap.size, 5, none⟩ = some (.int .i64 rzn) := HLr4.out.cell 5
      have r6 : w4.cell? ⟨w2.heap.size, 6, none⟩ = some (.int .i64 rln) := HLr4.out.cell 6
      by_cases hst : st = 0
      · have ds : (st != 0) = false := by rw [hst]; rfl
        subst hst
        have HS1 := Lib.hid (HS.out.trans (if_neg (by simp)))
        clear HS
        obtain ⟨b1, hb1⟩ : ∃ b, (nod != rfr) = b := ⟨_, rfl⟩
        obtain ⟨b2, hb2⟩ : ∃ b, (nod != rtt) = b := ⟨_, rfl⟩
        have HCf : Hid (((b1 && b2) || on) = true ↔ (nod ≠ rfr ∧ nod ≠ rtt) ∨ on = true) := hide (by rw [← hb1, ← hb2]; simp [bne_iff_ne])
        obtain ⟨cf, hcf⟩ : ∃ b, ((b1 && b2) || on) = b := ⟨_, rfl⟩
        have HCe := Lib.hid hcf
        rw [hcf] at HCf
        clear hcf
        go_upto_region 8 with (fail)
        go_cut [57] (fun s wx => s = .bool cf ∧ Below w4.heap.size w4 wx)
        case first =>
          cases b1 with
          | false =>
            go_wp2_with fail
            with_reducible refine (gon_any _ l rg w4 (HV.out.now HW4.out)).mono ?_
            rintro e w5 ⟨rfl, hb5⟩
            rw [HOn.out]
            go_wp2_with fail
            go_meet
            exact ⟨congrArg Value.bool (by rw [← HCe.out]; rfl), hb5⟩
          | true =>
            cases b2 with
            | false =>
              go_wp2_with fail
              with_reducible refine (gon_any _ l rg w4 (HV.out.now HW4.out)).mono ?_
              rintro e w5 ⟨rfl, hb5⟩
              rw [HOn.out]
              go_wp2_with fail
              go_meet
              exact ⟨congrArg Value.bool (by rw [← HCe.out]; rfl), hb5⟩
            | true =>
              go_wp2_with fail
              go_meet
              exact ⟨congrArg Value.bool (by rw [← HCe.out]; rfl), Below.refl _ _⟩
        obtain ⟨rfl, hcut⟩ := hcut
        obtain ⟨w5, rfl⟩ : ∃ wk : World, wk = wc := ⟨_, rfl⟩
        have HB5 := Lib.hid (HB4.out.trans (hcut.mono hsz4))
        have HW5 := Lib.hid (HW4.out.trans (hcut.mono HW4.out.size))
        have hsz5 : wb.heap.size ≤ w5.heap.size := Nat.le_trans hsz4 hcut.size
        have HX05 := Lib.hid (HX04.out.below hcut (Nat.lt_of_lt_of_le hxx0 hsz4))
        have HLr5 := Lib.hid (HLr4.out.below hcut HLr4.out.lt)
        have HLg5 := Lib.hid (HLg4.out.below hcut HLg4.out.lt)
        clear hcut hb1 hb2 HCe c0 c1 c2 c3 c4 c5 c6 c7 r0 r1 r2 r3 r4 r5 r6
        have c0 : w5.cell? ⟨w3.heap.size, 0, none⟩ = some (.int .i64 id) := HLg5.out.cell 0
        have c1 : w5.cell? ⟨w3.heap.size, 1, none⟩ = some (.int .i64 nod) := HLg5.out.cell 1
        have c2 : w5.cell? ⟨w3.heap.size, 2, none⟩ = some (.int .i64 fuel) := HLg5.out.cell 2
        have c3 : w5.cell? ⟨w3.heap.size, 3, none⟩ = some (.int .i64 0) := HLg5.out.cell 3
        have c4 : w5.cell? ⟨w3.heap.size, 4, none⟩ = some (.int .i64 tg) := HLg5.out.cell 4
        have c5 : w5.cell? ⟨w3.heap.size, 5, none⟩ = some (.int .i64 run) := HLg5.out.cell 5
        have c6 : w5.cell? ⟨w3.heap.size, 6, none⟩ = some (.int .i64 til) := HLg5.out.cell 6
        have c7 : w5.cell? ⟨w3.heap.size, 7, none⟩ = some (.bool win) := HLg5.out.cell 7
        cases cf with
        | true =>
          have HE : Hid (groomG rs l gi rg s_ t = ([], 15)) := hide (by have h := HS1.out; rw [if_pos (HCf.out.1 rfl)] at h; exact h)
          go_wp2_with fail
          try go_ret2
          exact HFin.out [] 15 _ _ HE.out (OwnT.nil _ _ _ _ _) HW5.out
        | false =>
          have HS2 := Lib.hid (HS1.out.trans (if_neg (fun h => by have := HCf.out.2 h; cases this)))
          clear HS1 HCf
          have hig := HIg.out
          obtain ⟨fq, hfq⟩ : ∃ x, fuel / 5 = x := ⟨_, rfl⟩
          rw [hfq] at HS2
          have hfb : 0 ≤ fq ∧ fq ≤ 200000 := by omega
          have hse : Int.tdiv fuel 5 = fq := by rw [Int.tdiv_eq_ediv_of_nonneg (by omega)]; exact hfq
          clear hfq
          by_cases hf : fq < s_
          · have df : decide (s_ > fq) = true := decide_eq_true hf
            have HE : Hid (groomG rs l gi rg s_ t = ([], 5)) := hide (by have h := HS2.out; rw [if_pos hf] at h; exact h)
            go_wp2_with fail
            try go_ret2
            exact HFin.out [] 5 _ _ HE.out (OwnT.nil _ _ _ _ _) HW5.out
          · have df : decide (s_ > fq) = false := decide_eq_false hf
            have HS3 := Lib.hid (HS2.out.trans (if_neg hf))
            clear HS2
            by_cases hs1 : s_ < 1
            · have dhs1 : decide (s_ < 1) = true := decide_eq_true hs1
              have HE : Hid (groomG rs l gi rg s_ t = ([], 2)) := hide (by have h := HS3.out; rw [if_pos (by omega)] at h; exact h)
              go_wp2_with fail
              try go_ret2
              exact HFin.out [] 2 _ _ HE.out (OwnT.nil _ _ _ _ _) HW5.out
            · have dhs1 : decide (s_ < 1) = false := decide_eq_false hs1
              by_cases hs2 : 86400 < s_
              · have dhs2 : decide (s_ > 86400) = true := decide_eq_true hs2
                have HE : Hid (groomG rs l gi rg s_ t = ([], 2)) := hide (by have h := HS3.out; rw [if_pos (by omega)] at h; exact h)
                go_wp2_with fail
                try go_ret2
                exact HFin.out [] 2 _ _ HE.out (OwnT.nil _ _ _ _ _) HW5.out
              · have dhs2 : decide (s_ > 86400) = false := decide_eq_false hs2
                by_cases ht0 : t < 0
                · have dht0 : decide (t < 0) = true := decide_eq_true ht0
                  have HE : Hid (groomG rs l gi rg s_ t = ([], 2)) := hide (by have h := HS3.out; rw [if_pos (by omega)] at h; exact h)
                  go_wp2_with fail
                  try go_ret2
                  exact HFin.out [] 2 _ _ HE.out (OwnT.nil _ _ _ _ _) HW5.out
                · have dht0 : decide (t < 0) = false := decide_eq_false ht0
                  by_cases ht1 : 20000000 - s_ < t
                  · have dht1 : decide (t > 20000000 - s_) = true := decide_eq_true ht1
                    have HE : Hid (groomG rs l gi rg s_ t = ([], 2)) := hide (by have h := HS3.out; rw [if_pos (by omega)] at h; exact h)
                    go_wp2_with fail
                    try go_ret2
                    exact HFin.out [] 2 _ _ HE.out (OwnT.nil _ _ _ _ _) HW5.out
                  · have dht1 : decide (t > 20000000 - s_) = false := decide_eq_false ht1
                    have HE : Hid (groomG rs l gi rg s_ t = (l.set i ⟨id, nod, fuel - 5 * s_, 2, tg, rg, t + s_, win⟩, 0)) := hide (by have h := HS3.out; rw [if_neg (by omega)] at h; simp only [begunG] at h; exact h)
                    clear HS3
                    go_upto_region 15 with (first
                      | (refine wpList_store_field 3 (.tmp 83) (.const (.int .i64 2)) rfl rfl w3.heap.size 3 (.int .i64 2) rfl rfl _ _ HLg5.out (by kernel_rfl) (by simp) rfl rfl ?_
                         intro w6 hx6 hon6
                         have HLg6 : Hid (Blk w6 w3.heap.size 51 #[.int .i64 id, .int .i64 nod, .int .i64 fuel, .int .i64 2, .int .i64 tg, .int .i64 run, .int .i64 til, .bool win]) := hide hx6
                         have HW6 := Lib.hid (hon6.below HW5.out hw1)
                         clear hx6 hon6)
                      | (refine wpList_store_field 3 (.tmp 84) (.tmp 79) rfl rfl w3.heap.size 5 (.int .i64 rg) rfl rfl _ _ HLg6.out (by kernel_rfl) (by simp) rfl rfl ?_
                         intro w7 hx7 hon7
                         have HLg7 : Hid (Blk w7 w3.heap.size 51 #[.int .i64 id, .int .i64 nod, .int .i64 fuel, .int .i64 2, .int .i64 tg, .int .i64 rg, .int .i64 til, .bool win]) := hide hx7
                         have HW7 := Lib.hid (hon7.below HW6.out hw1)
                         clear hx7 hon7)
                      | (refine wpList_store_field 3 (.tmp 85) (.tmp 82) rfl rfl w3.heap.size 6 (.int .i64 (t + s_)) rfl rfl _ _ HLg7.out (by kernel_rfl) (by simp) rfl rfl ?_
                         intro w8 hx8 hon8
                         have HLg8 : Hid (Blk w8 w3.heap.size 51 #[.int .i64 id, .int .i64 nod, .int .i64 fuel, .int .i64 2, .int .i64 tg, .int .i64 rg, .int .i64 (t + s_), .bool win]) := hide hx8
                         have HW8 := Lib.hid (hon8.below HW7.out hw1)
                         clear hx8 hon8))
                    clear c0 c1 c2 c3 c4 c5 c6 c7
                    have c0 : w8.cell? ⟨w3.heap.size, 0, none⟩ = some (.int .i64 id) := HLg8.out.cell 0
                    have c1 : w8.cell? ⟨w3.heap.size, 1, none⟩ = some (.int .i64 nod) := HLg8.out.cell 1
                    have c2 : w8.cell? ⟨w3.heap.size, 2, none⟩ = some (.int .i64 fuel) := HLg8.out.cell 2
                    have c3 : w8.cell? ⟨w3.heap.size, 3, none⟩ = some (.int .i64 2) := HLg8.out.cell 3
                    have c4 : w8.cell? ⟨w3.heap.size, 4, none⟩ = some (.int .i64 tg) := HLg8.out.cell 4
                    have c5 : w8.cell? ⟨w3.heap.size, 5, none⟩ = some (.int .i64 rg) := HLg8.out.cell 5
                    have c6 : w8.cell? ⟨w3.heap.size, 6, none⟩ = some (.int .i64 (t + s_)) := HLg8.out.cell 6
                    have c7 : w8.cell? ⟨w3.heap.size, 7, none⟩ = some (.bool win) := HLg8.out.cell 7
                    go_upto_region 16 with (refine wpList_store_field 3 (.tmp 91) (.tmp 90) rfl rfl w3.heap.size 2 (.int .i64 (fuel - 5 * s_)) rfl rfl _ _ HLg8.out (by kernel_rfl) (by simp) rfl rfl ?_
                                            intro w9 hx9 hon9
                                            have HLg9 : Hid (Blk w9 w3.heap.size 51 #[.int .i64 id, .int .i64 nod, .int .i64 (fuel - 5 * s_), .int .i64 2, .int .i64 tg, .int .i64 rg, .int .i64 (t + s_), .bool win]) := hide hx9
                                            have HW9 := Lib.hid (hon9.below HW8.out hw1)
                                            clear hx9 hon9)
                    clear c0 c1 c2 c3 c4 c5 c6 c7
                    go_wp2_with fail
                    have hs9 := HR.out.now HW9.out
                    with_reducible refine (gclone_any (some ad) n c l w9 w.heap.size hs9 HN.out h3 h4 (by omega) HW9.out.size).mono ?_
                    rintro e w10 ⟨v10, rfl, hO10, hb10⟩
                    have HLg10 := Lib.hid (HLg9.out.below hb10 HLg9.out.lt)
                    have HW10 := Lib.hid (HW9.out.trans (hb10.mono HW9.out.size))
                    obtain ⟨A10, n10, c10, rfl, HN10, h13, h14, hs10⟩ := hO10.nam
                    obtain rfl : n = n10 := by rw [← HN10.out, HN.out]
                    obtain ⟨ad10, rfl, hab10, _⟩ := strs_at hs10 (fun _ => rfl) HN10.out hin gr0
                    have hlo10 : w.heap.size ≤ ad10.block := own_lo hO10 HN10.out hin
                    have HO10 := Lib.hid hO10
                    unfold maxLen at h14
                    clear hO10 hs10 hs9 hb10
                    go_wp2_with
                      (first
                       | (refine wpList_load_g 51 (.tmp 17) rfl rfl w3.heap.size rfl _ _ HLg10.out _ Try.underlying51 rfl (by kernel_rfl) ?_)
                       | (refine wpList_store_ownT 51 (.tmp 97) (.tmp 96) rfl rfl HO10.out HN10.out i hin ⟨id, nod, fuel - 5 * s_, 2, tg, rg, t + s_, win⟩ _ rfl rfl rfl (fun _ => rfl) (by kernel_rfl) (one_gr _) ?_
                          intro w11 hO11 hon11
                          have HO11 := Lib.hid hO11
                          have HW11 := Lib.hid (hon11.below HW10.out hlo10)
                          clear hO11 hon11))
                    try go_ret2
                    exact HFin.out _ _ _ _ HE.out HO11.out HW11.out
      · have ds : (st != 0) = true := bne_iff_ne.2 hst
        have HE := Lib.hid (HS.out.trans (if_pos (by simpa using hst)))
        go_wp2_with fail
        try go_ret2
        exact HFin.out [] 10 _ _ HE.out (OwnT.nil _ _ _ _ _) HW4.out
set_option maxRecDepth 100000 in
set_option maxHeartbeats 8000000 in
theorem rggroom_any (vn vl vr vb : Value) (rs : List Rn) (v : Value) (l : List Gr) (gi rg s_ t : Int) (w : World) (hr : StrV Rn.cells 7 w w.heap.size vr rs) (hv : GrV w w.heap.size v l) (hin : ∀ x ∈ l, inG x = true) (hlen : l.length ≤ 16) :
    Calls Try.prog 22 #[.agg #[vn, vl, vr, vb], v, .int .i64 gi, .int .i64 rg, .int .i64 s_, .int .i64 t] w (SdR (groomG rs l gi rg s_ t) w) := by
  obtain ⟨A, n, c, rfl, HN, h3, h4, hr'⟩ := hv.nam
  have HV := Lib.hid hv
  have HR := Lib.hid hr'
  have HRs := Lib.hid hr
  have HIn := Lib.hid hin
  have hn16 : n ≤ 16 := by rw [← HN.out]; exact hlen
  have HFin : Hid (∀ (ls : List Gr) (x : Int) (v' : Value) (w' : World), groomG rs l gi rg s_ t = (ls, x) → OwnGr w' w.heap.size v' ls → Below w.heap.size w w' → SdR (groomG rs l gi rg s_ t) w (.returned (.tuple #[v', .int .i64 x])) w') := fun ls x v' w' h1 h2 h3 => SdR.fin h1 h2 h3
  generalize SdR (groomG rs l gi rg s_ t) w = RR at *
  clear hr hv hr' hin
  go_enter Try.func22, Try.ntmps22
  go_wp2_with fail
  have HBwb := (Blk.new w 32 #[vn, vl, vr, vb])
  have HLwb := (below_new w (.cells #[vn, vl, vr, vb] 32))
  have hswb : (w.alloc (.cells #[vn, vl, vr, vb] 32)).heap.size = w.heap.size + 1 := by simp
  generalize w.alloc (.cells #[vn, vl, vr, vb] 32) = wb at HBwb HLwb hswb ⊢
  replace HBwb := Lib.hid HBwb
  replace HLwb := Lib.hid HLwb
  have hlwb : w.heap.size < wb.heap.size := by omega
  replace hswb := Lib.hid hswb
  have HWb := Lib.hid (HLwb.out)
  have hl0 : w.heap.size ≤ wb.heap.size := HWb.out.size
  have HBb : Hid (Below wb.heap.size wb wb) := hide (Below.refl _ _)
  have hszb : wb.heap.size ≤ wb.heap.size := Nat.le_refl _
  have HX0b : Hid (Blk wb w.heap.size 32 #[vn, vl, vr, vb]) := hide HBwb.out
  have hxx0 : w.heap.size < wb.heap.size := HX0b.out.lt
  clear HBwb HLwb hswb hlwb
  obtain ⟨z, hz⟩ : ∃ z, findG l gi = z := ⟨_, rfl⟩
  have HZ := Lib.hid hz
  clear hz
  with_reducible refine (rindex_any _ l gi wb (HV.out.now HWb.out)).mono ?_
  rintro e w1 ⟨rfl, rfl⟩
  rw [HZ.out]
  go_wp2_with
    (first
     | (refine wpList_load_g 32 (.tmp 6) rfl rfl w.heap.size rfl _ _ HX0b.out _ Try.underlying32 rfl (by kernel_rfl) ?_))
  with_reducible refine (rrun_any _ _ _ _ rs rg wb (HRs.out.now HWb.out)).mono ?_
  rintro e w2 ⟨rfl, hb2⟩
  have HB2 := Lib.hid (HBb.out.trans (hb2.mono hszb))
  have HW2 := Lib.hid (HWb.out.trans (hb2.mono HWb.out.size))
  have hsz2 : wb.heap.size ≤ w2.heap.size := Nat.le_trans hszb hb2.size
  have HX02 := Lib.hid (HX0b.out.below hb2 (Nat.lt_of_lt_of_le hxx0 hszb))
  clear hb2
  obtain ⟨q, hq⟩ : ∃ q, rnOf rs rg = q := ⟨_, rfl⟩
  obtain ⟨rb, hrb⟩ : ∃ b, hasR rs rg = b := ⟨_, rfl⟩
  rw [hq, hrb]
  have HQ := Lib.hid hq
  have HRb := Lib.hid hrb
  clear hq hrb
  obtain ⟨rid, rop, rfr, rtt, rgr, rzn, rln⟩ := q
  go_upto_region 3 with (fail)
  have HBw3 := (Blk.new w2 56 #[.int .i64 rid, .int .i64 rop, .int .i64 rfr, .int .i64 rtt, .int .i64 rgr, .int .i64 rzn, .int .i64 rln])
  have HLw3 := (below_new w2 (.cells #[.int .i64 rid, .int .i64 rop, .int .i64 rfr, .int .i64 rtt, .int .i64 rgr, .int .i64 rzn, .int .i64 rln] 56))
  have hsw3 : (w2.alloc (.cells #[.int .i64 rid, .int .i64 rop, .int .i64 rfr, .int .i64 rtt, .int .i64 rgr, .int .i64 rzn, .int .i64 rln] 56)).heap.size = w2.heap.size + 1 := by simp
  generalize w2.alloc (.cells #[.int .i64 rid, .int .i64 rop, .int .i64 rfr, .int .i64 rtt, .int .i64 rgr, .int .i64 rzn, .int .i64 rln] 56) = w3 at HBw3 HLw3 hsw3 ⊢
  replace HBw3 := Lib.hid HBw3
  replace HLw3 := Lib.hid HLw3
  have hlw3 : w2.heap.size < w3.heap.size := by omega
  replace hsw3 := Lib.hid hsw3
  have hb3 := HLw3.out
  have HLr3 := HBw3
  clear HBw3 HLw3 hsw3 hlw3
  have HB3 := Lib.hid (HB2.out.trans (hb3.mono hsz2))
  have HW3 := Lib.hid (HW2.out.trans (hb3.mono HW2.out.size))
  have hsz3 : wb.heap.size ≤ w3.heap.size := Nat.le_trans hsz2 hb3.size
  have HX03 := Lib.hid (HX02.out.below hb3 (Nat.lt_of_lt_of_le hxx0 hsz2))
  clear hb3
  have hw1 : w.heap.size ≤ w3.heap.size := HW3.out.size
  rcases findG_cases l gi with hz | ⟨i, hz, hil, hid⟩
  · have HE := Lib.hid (groomG_no (rs := rs) (run := rg) (s := s_) (t := t) hz)
    rw [HZ.out] at hz
    subst hz
    go_wp2_with fail
    try go_ret2
    exact HFin.out [] 8 _ _ HE.out (OwnT.nil _ _ _ _ _) HW3.out
  · have hin : i < n := by rw [← HN.out]; exact hil
    have HAt := Lib.hid (groomG_at (rs := rs) (run := rg) (s := s_) (t := t) hz)
    rw [HZ.out] at hz
    subst hz
    cases rb with
    | false =>
      have HE := Lib.hid (groomG_none (l := l) (id := gi) (s := s_) (t := t) HRb.out)
      go_wp2_with fail
      try go_ret2
      exact HFin.out [] 8 _ _ HE.out (OwnT.nil _ _ _ _ _) HW3.out
    | true =>
      have HS := Lib.hid (HAt.out HRb.out)
      rw [HQ.out] at HS
      clear hid HAt
      obtain ⟨on, hon⟩ : ∃ b, onG l rg = b := ⟨_, rfl⟩
      have HOn := Lib.hid hon
      rw [hon] at HS
      unfold groomV at HS
      simp only at HS
      clear hon
      obtain ⟨ad, rfl, hab, hcl⟩ := strs_at (HR.out.below HW3.out) (fun _ => rfl) HN.out hin gr0
      have HIg := Lib.hid (inG_iff (HIn.out _ (gr_mem (l := l) (k := i) hil)))
      generalize l.getD i gr0 = q at *
      obtain ⟨id, nod, fuel, st, tg, run, til, win⟩ := q
      simp only at HIg HS
      have HCl : Hid (∀ j u, ([.int .i64 id, .int .i64 nod, .int .i64 fuel, .int .i64 st, .int .i64 tg, .int .i64 run, .int .i64 til, .bool win] : List Value)[j]? = some u → w3.cell? ((ad.add (i * 8)).add j) = some u) := hcl
      clear hcl
      go_upto_region 6 with (refine wpList_load_at 51 (.tmp 35) rfl rfl (ad.add (i * 8)) rfl [.int .i64 id, .int .i64 nod, .int .i64 fuel, .int .i64 st, .int .i64 tg, .int .i64 run, .int .i64 til, .bool win] HCl.out _ Try.underlying51 rfl (by kernel_rfl) ?_)
      have HBw4 := (Blk.new w3 51 #[.int .i64 id, .int .i64 nod, .int .i64 fuel, .int .i64 st, .int .i64 tg, .int .i64 run, .int .i64 til, .bool win])
      have HLw4 := (below_new w3 (.cells #[.int .i64 id, .int .i64 nod, .int .i64 fuel, .int .i64 st, .int .i64 tg, .int .i64 run, .int .i64 til, .bool win] 51))
      have hsw4 : (w3.alloc (.cells #[.int .i64 id, .int .i64 nod, .int .i64 fuel, .int .i64 st, .int .i64 tg, .int .i64 run, .int .i64 til, .bool win] 51)).heap.size = w3.heap.size + 1 := by simp
      generalize w3.alloc (.cells #[.int .i64 id, .int .i64 nod, .int .i64 fuel, .int .i64 st, .int .i64 tg, .int .i64 run, .int .i64 til, .bool win] 51) = w4 at HBw4 HLw4 hsw4 ⊢
      replace HBw4 := Lib.hid HBw4
      replace HLw4 := Lib.hid HLw4
      have hlw4 : w3.heap.size < w4.heap.size := by omega
      replace hsw4 := Lib.hid hsw4
      have hb4 := HLw4.out
      have HLg4 := HBw4
      clear HBw4 HLw4 hsw4 hlw4 HCl
      have HB4 := Lib.hid (HB3.out.trans (hb4.mono hsz3))
      have HW4 := Lib.hid (HW3.out.trans (hb4.mono HW3.out.size))
      have hsz4 : wb.heap.size ≤ w4.heap.size := Nat.le_trans hsz3 hb4.size
      have HX04 := Lib.hid (HX03.out.below hb4 (Nat.lt_of_lt_of_le hxx0 hsz3))
      have HLr4 := Lib.hid (HLr3.out.below hb4 HLr3.out.lt)
      clear hb4
      have c0 : w4.cell? ⟨w3.heap.size, 0, none⟩ = some (.int .i64 id) := HLg4.out.cell 0
      have c1 : w4.cell? ⟨w3.heap.size, 1, none⟩ = some (.int .i64 nod) := HLg4.out.cell 1
      have c2 : w4.cell? ⟨w3.heap.size, 2, none⟩ = some (.int .i64 fuel) := HLg4.out.cell 2
      have c3 : w4.cell? ⟨w3.heap.size, 3, none⟩ = some (.int .i64 st) := HLg4.out.cell 3
      have c4 : w4.cell? ⟨w3.heap.size, 4, none⟩ = some (.int .i64 tg) := HLg4.out.cell 4
      have c5 : w4.cell? ⟨w3.heap.size, 5, none⟩ = some (.int .i64 run) := HLg4.out.cell 5
      have c6 : w4.cell? ⟨w3.heap.size, 6, none⟩ = some (.int .i64 til) := HLg4.out.cell 6
      have c7 : w4.cell? ⟨w3.heap.size, 7, none⟩ = some (.bool win) := HLg4.out.cell 7
      have r0 : w4.cell? ⟨w2.heap.size, 0, none⟩ = some (.int .i64 rid) := HLr4.out.cell 0
      have r1 : w4.cell? ⟨w2.heap.size, 1, none⟩ = some (.int .i64 rop) := HLr4.out.cell 1
      have r2 : w4.cell? ⟨w2.heap.size, 2, none⟩ = some (.int .i64 rfr) := HLr4.out.cell 2
      have r3 : w4.cell? ⟨w2.heap.size, 3, none⟩ = some (.int .i64 rtt) := HLr4.out.cell 3
      have r4 : w4.cell? ⟨w2.heap.size, 4, none⟩ = some (.int .i64 rgr) := HLr4.out.cell 4
      have r5 : w4.cell? ⟨w2.heap.size, 5, none⟩ = some (.int .i64 rzn) := HLr4.out.cell 5
      have r6 : w4.cell? ⟨w2.heap.size, 6, none⟩ = some (.int .i64 rln) := HLr4.out.cell 6
      by_cases hst : st = 0
      · have ds : (st != 0) = false := by rw [hst]; rfl
        subst hst
        have HS1 := Lib.hid (HS.out.trans (if_neg (by simp)))
        clear HS
        obtain ⟨b1, hb1⟩ : ∃ b, (nod != rfr) = b := ⟨_, rfl⟩
        obtain ⟨b2, hb2⟩ : ∃ b, (nod != rtt) = b := ⟨_, rfl⟩
        have HCf : Hid (((b1 && b2) || on) = true ↔ (nod ≠ rfr ∧ nod ≠ rtt) ∨ on = true) := hide (by rw [← hb1, ← hb2]; simp [bne_iff_ne])
        obtain ⟨cf, hcf⟩ : ∃ b, ((b1 && b2) || on) = b := ⟨_, rfl⟩
        have HCe := Lib.hid hcf
        rw [hcf] at HCf
        clear hcf
        go_upto_region 8 with (fail)
        go_cut [56] (fun s wx => s = .bool cf ∧ Below w4.heap.size w4 wx)
        case first =>
          cases b1 with
          | false =>
            go_wp2_with fail
            with_reducible refine (ron_any _ l rg w4 (HV.out.now HW4.out)).mono ?_
            rintro e w5 ⟨rfl, rfl⟩
            rw [HOn.out]
            go_wp2_with fail
            go_meet
            exact ⟨congrArg Value.bool (by rw [← HCe.out]; rfl), Below.refl _ _⟩
          | true =>
            cases b2 with
            | false =>
              go_wp2_with fail
              with_reducible refine (ron_any _ l rg w4 (HV.out.now HW4.out)).mono ?_
              rintro e w5 ⟨rfl, rfl⟩
              rw [HOn.out]
              go_wp2_with fail
              go_meet
              exact ⟨congrArg Value.bool (by rw [← HCe.out]; rfl), Below.refl _ _⟩
            | true =>
              go_wp2_with fail
              go_meet
              exact ⟨congrArg Value.bool (by rw [← HCe.out]; rfl), Below.refl _ _⟩
        obtain ⟨rfl, hcut⟩ := hcut
        obtain ⟨w5, rfl⟩ : ∃ wk : World, wk = wc := ⟨_, rfl⟩
        have HB5 := Lib.hid (HB4.out.trans (hcut.mono hsz4))
        have HW5 := Lib.hid (HW4.out.trans (hcut.mono HW4.out.size))
        have hsz5 : wb.heap.size ≤ w5.heap.size := Nat.le_trans hsz4 hcut.size
        have HX05 := Lib.hid (HX04.out.below hcut (Nat.lt_of_lt_of_le hxx0 hsz4))
        have HLr5 := Lib.hid (HLr4.out.below hcut HLr4.out.lt)
        have HLg5 := Lib.hid (HLg4.out.below hcut HLg4.out.lt)
        clear hcut hb1 hb2 HCe c0 c1 c2 c3 c4 c5 c6 c7 r0 r1 r2 r3 r4 r5 r6
        have c0 : w5.cell? ⟨w3.heap.size, 0, none⟩ = some (.int .i64 id) := HLg5.out.cell 0
        have c1 : w5.cell? ⟨w3.heap.size, 1, none⟩ = some (.int .i64 nod) := HLg5.out.cell 1
        have c2 : w5.cell? ⟨w3.heap.size, 2, none⟩ = some (.int .i64 fuel) := HLg5.out.cell 2
        have c3 : w5.cell? ⟨w3.heap.size, 3, none⟩ = some (.int .i64 0) := HLg5.out.cell 3
        have c4 : w5.cell? ⟨w3.heap.size, 4, none⟩ = some (.int .i64 tg) := HLg5.out.cell 4
        have c5 : w5.cell? ⟨w3.heap.size, 5, none⟩ = some (.int .i64 run) := HLg5.out.cell 5
        have c6 : w5.cell? ⟨w3.heap.size, 6, none⟩ = some (.int .i64 til) := HLg5.out.cell 6
        have c7 : w5.cell? ⟨w3.heap.size, 7, none⟩ = some (.bool win) := HLg5.out.cell 7
        cases cf with
        | true =>
          have HE : Hid (groomG rs l gi rg s_ t = ([], 15)) := hide (by have h := HS1.out; rw [if_pos (HCf.out.1 rfl)] at h; exact h)
          go_wp2_with fail
          try go_ret2
          exact HFin.out [] 15 _ _ HE.out (OwnT.nil _ _ _ _ _) HW5.out
        | false =>
          have HS2 := Lib.hid (HS1.out.trans (if_neg (fun h => by have := HCf.out.2 h; cases this)))
          clear HS1 HCf
          have hig := HIg.out
          obtain ⟨fq, hfq⟩ : ∃ x, fuel / 5 = x := ⟨_, rfl⟩
          rw [hfq] at HS2
          have hfb : 0 ≤ fq ∧ fq ≤ 200000 := by omega
          have hse : Int.tdiv fuel 5 = fq := by rw [Int.tdiv_eq_ediv_of_nonneg (by omega)]; exact hfq
          clear hfq
          by_cases hf : fq < s_
          · have df : decide (s_ > fq) = true := decide_eq_true hf
            have HE : Hid (groomG rs l gi rg s_ t = ([], 5)) := hide (by have h := HS2.out; rw [if_pos hf] at h; exact h)
            go_wp2_with fail
            try go_ret2
            exact HFin.out [] 5 _ _ HE.out (OwnT.nil _ _ _ _ _) HW5.out
          · have df : decide (s_ > fq) = false := decide_eq_false hf
            have HS3 := Lib.hid (HS2.out.trans (if_neg hf))
            clear HS2
            obtain ⟨sb, hsb⟩ : ∃ b, (decide ((1 : Int) ≤ s_) && decide (s_ ≤ 86400)) = b := ⟨_, rfl⟩
            have HSb := Lib.hid hsb
            clear hsb
            go_wp2_with fail
            with_reducible refine (rin_any s_ 1 86400 sb _ HSb.out).mono ?_
            rintro e w6 ⟨rfl, rfl⟩
            cases sb with
            | false =>
              have hsx := HSb.out
              simp only [Bool.and_eq_false_iff, decide_eq_false_iff_not] at hsx
              have HE : Hid (groomG rs l gi rg s_ t = ([], 2)) := hide (by have h := HS3.out; rw [if_pos (by omega)] at h; exact h)
              clear hsx
              go_wp2_with fail
              try go_ret2
              exact HFin.out [] 2 _ _ HE.out (OwnT.nil _ _ _ _ _) HW5.out
            | true =>
              have hsx := HSb.out
              simp only [Bool.and_eq_true, decide_eq_true_eq] at hsx
              obtain ⟨hs1, hs2⟩ := hsx
              by_cases ht0 : t < 0
              · have dht0 : decide (t < 0) = true := decide_eq_true ht0
                have HE : Hid (groomG rs l gi rg s_ t = ([], 2)) := hide (by have h := HS3.out; rw [if_pos (by omega)] at h; exact h)
                go_wp2_with fail
                try go_ret2
                exact HFin.out [] 2 _ _ HE.out (OwnT.nil _ _ _ _ _) HW5.out
              · have dht0 : decide (t < 0) = false := decide_eq_false ht0
                by_cases ht1 : 20000000 - s_ < t
                · have dht1 : decide (t > 20000000 - s_) = true := decide_eq_true ht1
                  have HE : Hid (groomG rs l gi rg s_ t = ([], 2)) := hide (by have h := HS3.out; rw [if_pos (by omega)] at h; exact h)
                  go_wp2_with fail
                  try go_ret2
                  exact HFin.out [] 2 _ _ HE.out (OwnT.nil _ _ _ _ _) HW5.out
                · have dht1 : decide (t > 20000000 - s_) = false := decide_eq_false ht1
                  have HE : Hid (groomG rs l gi rg s_ t = (l.set i ⟨id, nod, fuel - 5 * s_, 2, tg, rg, t + s_, win⟩, 0)) := hide (by have h := HS3.out; rw [if_neg (by omega)] at h; simp only [begunG] at h; exact h)
                  clear HS3
                  go_upto_region 17 with (first
                    | (refine wpList_store_field 3 (.tmp 75) (.const (.int .i64 2)) rfl rfl w3.heap.size 3 (.int .i64 2) rfl rfl _ _ HLg5.out (by kernel_rfl) (by simp) rfl rfl ?_
                       intro w6 hx6 hon6
                       have HLg6 : Hid (Blk w6 w3.heap.size 51 #[.int .i64 id, .int .i64 nod, .int .i64 fuel, .int .i64 2, .int .i64 tg, .int .i64 run, .int .i64 til, .bool win]) := hide hx6
                       have HW6 := Lib.hid (hon6.below HW5.out hw1)
                       clear hx6 hon6)
                    | (refine wpList_store_field 3 (.tmp 77) (.tmp 76) rfl rfl w3.heap.size 5 (.int .i64 rg) rfl rfl _ _ HLg6.out (by kernel_rfl) (by simp) rfl rfl ?_
                       intro w7 hx7 hon7
                       have HLg7 : Hid (Blk w7 w3.heap.size 51 #[.int .i64 id, .int .i64 nod, .int .i64 fuel, .int .i64 2, .int .i64 tg, .int .i64 rg, .int .i64 til, .bool win]) := hide hx7
                       have HW7 := Lib.hid (hon7.below HW6.out hw1)
                       clear hx7 hon7)
                    | (refine wpList_store_field 3 (.tmp 81) (.tmp 80) rfl rfl w3.heap.size 6 (.int .i64 (t + s_)) rfl rfl _ _ HLg7.out (by kernel_rfl) (by simp) rfl rfl ?_
                       intro w8 hx8 hon8
                       have HLg8 : Hid (Blk w8 w3.heap.size 51 #[.int .i64 id, .int .i64 nod, .int .i64 fuel, .int .i64 2, .int .i64 tg, .int .i64 rg, .int .i64 (t + s_), .bool win]) := hide hx8
                       have HW8 := Lib.hid (hon8.below HW7.out hw1)
                       clear hx8 hon8))
                  clear c0 c1 c2 c3 c4 c5 c6 c7
                  have c0 : w8.cell? ⟨w3.heap.size, 0, none⟩ = some (.int .i64 id) := HLg8.out.cell 0
                  have c1 : w8.cell? ⟨w3.heap.size, 1, none⟩ = some (.int .i64 nod) := HLg8.out.cell 1
                  have c2 : w8.cell? ⟨w3.heap.size, 2, none⟩ = some (.int .i64 fuel) := HLg8.out.cell 2
                  have c3 : w8.cell? ⟨w3.heap.size, 3, none⟩ = some (.int .i64 2) := HLg8.out.cell 3
                  have c4 : w8.cell? ⟨w3.heap.size, 4, none⟩ = some (.int .i64 tg) := HLg8.out.cell 4
                  have c5 : w8.cell? ⟨w3.heap.size, 5, none⟩ = some (.int .i64 rg) := HLg8.out.cell 5
                  have c6 : w8.cell? ⟨w3.heap.size, 6, none⟩ = some (.int .i64 (t + s_)) := HLg8.out.cell 6
                  have c7 : w8.cell? ⟨w3.heap.size, 7, none⟩ = some (.bool win) := HLg8.out.cell 7
                  go_upto_region 18 with (refine wpList_store_field 3 (.tmp 87) (.tmp 86) rfl rfl w3.heap.size 2 (.int .i64 (fuel - 5 * s_)) rfl rfl _ _ HLg8.out (by kernel_rfl) (by simp) rfl rfl ?_
                                          intro w9 hx9 hon9
                                          have HLg9 : Hid (Blk w9 w3.heap.size 51 #[.int .i64 id, .int .i64 nod, .int .i64 (fuel - 5 * s_), .int .i64 2, .int .i64 tg, .int .i64 rg, .int .i64 (t + s_), .bool win]) := hide hx9
                                          have HW9 := Lib.hid (hon9.below HW8.out hw1)
                                          clear hx9 hon9)
                  clear c0 c1 c2 c3 c4 c5 c6 c7
                  have hs9 := HR.out.now HW9.out
                  go_wp2_with
                    (first
                     | (refine wpList_load_g 51 (.tmp 17) rfl rfl w3.heap.size rfl _ _ HLg9.out _ Try.underlying51 rfl (by kernel_rfl) ?_))
                  with_reducible refine (rwith_any (some ad) n c i l id nod (fuel - 5 * s_) 2 tg rg (t + s_) win w9 hs9 HN.out hn16 hin).mono ?_
                  rintro e w10 ⟨v10, rfl, hO10, hb10⟩
                  have HW10 := Lib.hid (HW9.out.trans (hb10.mono HW9.out.size))
                  have HO10 := Lib.hid (hO10.mono HW9.out.size)
                  clear hO10 hb10 hs9
                  go_wp2_with fail
                  try go_ret2
                  exact HFin.out _ _ _ _ HE.out HO10.out HW10.out
      · have ds : (st != 0) = true := bne_iff_ne.2 hst
        have HE := Lib.hid (HS.out.trans (if_pos (by simpa using hst)))
        go_wp2_with fail
        try go_ret2
        exact HFin.out [] 10 _ _ HE.out (OwnT.nil _ _ _ _ _) HW4.out
end Go.Proofs.Ytegijfmdjaehjaa
