/-
  Chapter 29: the closure that recovers, in scan of the program, walked.
  Chapter 29: scan, Read, Whole and Last of the program, walked.
-/
import Derived.Test.YtedeggjefnpjgaaDvE
import Derived.Test.YtedeggjefnpjgaaRegP
import Derived.Defers
import Derived.Recover
namespace Go.Proofs.Ytedeggjefnpjgaa

section
open Go.RowKit

theorem catch_panicking (p1 p2 p3 : Addr) (w : World) :
    CallsD Try.prog 51 #[.pointer (some p1), .pointer (some p2), .pointer (some p3)] (.panicking [{ v := .iface 97 (.agg #[]), recovered := false }]) w fun e u' w' =>
      e = .returned (.tuple #[]) ∧ u' = .panicking [{ v := .iface 97 (.agg #[]), recovered := true }] ∧ Below w.heap.size w w' := by
  refine callsD_of_wpS Try.func51 rfl fun c₀ cs hu => ?_
  simp only [Try.ntmps51, List.size_toArray, List.length_cons, List.length_nil, Nat.reduceAdd, Nat.reduceSub, Array.replicate_succ, Array.replicate_zero, List.push_toArray, List.append_toArray, List.nil_append, List.cons_append]
  apply wpS_seq
  apply wpS_region
  simp [wpOpsS, go_sem, recoverD, hu, Exit.thenS]
  refine wpS_of_wp ?_
  have hta : ∀ W : World, (Instr.typeAssert (.iface 97 (.agg #[])) 20 97 true).run Try.prog W = .ok (.tuple #[.agg #[], .bool true]) W := fun W => by show _ = _; kernel_rfl
  go_wp2_with fail
  exact ⟨rfl, .panicking [{ v := .iface 97 (.agg #[]), recovered := true }], rfl, .tuple #[], results_none rfl _ _ _, rfl, rfl, below_new w _⟩
theorem catch_idle (p1 p2 p3 : Addr) (w : World) :
    CallsD Try.prog 51 #[.pointer (some p1), .pointer (some p2), .pointer (some p3)] .returning w fun e u' w' =>
      e = .returned (.tuple #[]) ∧ u' = .returning ∧ w' = w := by
  refine callsD_of_wpS Try.func51 rfl fun c₀ cs hu => ?_
  simp only [Try.ntmps51, List.size_toArray, List.length_cons, List.length_nil, Nat.reduceAdd, Nat.reduceSub, Array.replicate_succ, Array.replicate_zero, List.push_toArray, List.append_toArray, List.nil_append, List.cons_append]
  apply wpS_seq
  apply wpS_region
  simp [wpOpsS, go_sem, recoverD, hu, Exit.thenS]
  refine wpS_of_wp ?_
  go_wp2_with fail
  exact ⟨rfl, .returning, by cases c₀; simp_all, .tuple #[], results_none rfl _ _ _, rfl, rfl, rfl⟩
end

section
open Go.RowKit

theorem record_none {A : Option Addr} {n c : Nat} {b : List UInt8} {lk : Nat} {w : World} (hr : Bytes w w.heap.size A n b) (hn : n ≤ 1000000) (hc : n ≤ c) (hc2 : c ≤ maxLen) (hlk : lk < 18446744073709551616) (hx : nextR lk b = none) :
    Calls Try.prog 52 #[.slice A n c, .int .u64 (lk : Int)] w fun e w' => e = .panicked [{ v := .iface 97 (.agg #[]), recovered := false }] ∧ Below w.heap.size w w' :=
  (record_any A n c b lk w hr hn hc hc2 hlk).mono fun e w' h => by
    obtain ⟨hb, ⟨_, h⟩ | ⟨r, k, l, h, _⟩⟩ := h
    · exact ⟨h, hb⟩
    · rw [hx] at h; cases h
theorem record_some {A : Option Addr} {n c : Nat} {b : List UInt8} {lk : Nat} {w : World} (hr : Bytes w w.heap.size A n b) (hn : n ≤ 1000000) (hc : n ≤ c) (hc2 : c ≤ maxLen) (hlk : lk < 18446744073709551616) {r : Rd} {k lk2 : Nat} (hx : nextR lk b = some (r, k, lk2)) :
    Calls Try.prog 52 #[.slice A n c, .int .u64 (lk : Int)] w fun e w' => e = .returned (.tuple #[.agg #[.int .i64 r.gate, .int .i64 r.seq, .int .i64 r.ser, .int .i64 r.cnt, .int .i64 r.prod, .int .i64 r.lift, .int .i64 r.att], .int .u64 (lk2 : Int), .int .i64 (k : Int)]) ∧ Below w.heap.size w w' :=
  (record_any A n c b lk w hr hn hc hc2 hlk).mono fun e w' h => by
    obtain ⟨hb, ⟨h, _⟩ | ⟨r', k', l', h, he⟩⟩ := h
    · rw [hx] at h; cases h
    · rw [hx] at h
      simp only [Option.some.injEq, Prod.mk.injEq] at h
      obtain ⟨rfl, rfl, rfl⟩ := h
      exact ⟨he, hb⟩

/-- how many bytes are left -/
def scanM (n g : Nat) (w : World) : Nat := n - (match w.cell? ⟨g + 1, 0, none⟩ with | some v => (intOf v).toNat | none => 0)
theorem scanM_eq {n g a : Nat} {w : World} (h : w.cell? ⟨g + 1, 0, none⟩ = some (.int .i64 (a : Int))) : scanM n g w = n - a := by
  unfold scanM
  rw [h]
  simp [intOf]
set_option maxRecDepth 100000 in
set_option maxHeartbeats 8000000 in
theorem scan_any (A : Option Addr) (n c : Nat) (b : List UInt8) (l : List Rd) (s lk : Nat) (w : World) (hr : Bytes w w.heap.size A n b) (hn : n ≤ 1000000) (hc : n ≤ c) (hc2 : c ≤ maxLen) (hT : scanR 0 b = (l, s, lk)) :
    Calls Try.prog 38 #[.slice A n c] w fun e w' => ∃ v, e = .returned (.tuple #[v, .int .i64 (s : Int), .int .u64 (lk : Int)]) ∧ OwnRd w' w.heap.size v l ∧ Below w.heap.size w w' := by
  have HR := Lib.hid hr
  have HL := Lib.hid hr.blen
  have H0 := Lib.hid (ScanI.start b)
  rw [hT] at H0
  clear hr hT
  have hmf : ∀ (fn : Fn) (first cap : Array Value) (w : World), (Instr.makeFunc fn first cap).run Try.prog w = .ok (.func fn first cap) w := fun _ _ _ _ => rfl
  go_enter_defers Try.func38, Try.ntmps38
  go_wp2_with fail
  clear hmf
  have HBwa := (Blk.new w 28 #[.slice none 0 0])
  have HLwa := (below_new w (.cells #[.slice none 0 0] 28))
  have hswa : (w.alloc (.cells #[.slice none 0 0] 28)).heap.size = w.heap.size + 1 := by simp
  generalize w.alloc (.cells #[.slice none 0 0] 28) = wa at HBwa HLwa hswa ⊢
  replace HBwa := Lib.hid HBwa
  replace HLwa := Lib.hid HLwa
  have hlwa : w.heap.size < wa.heap.size := by omega
  replace hswa := Lib.hid hswa
  have HBwb := (Blk.new wa 3 #[.int .i64 0])
  have HLwb := (below_new wa (.cells #[.int .i64 0] 3))
  have hswb : (wa.alloc (.cells #[.int .i64 0] 3)).heap.size = wa.heap.size + 1 := by simp
  generalize wa.alloc (.cells #[.int .i64 0] 3) = wb at HBwb HLwb hswb ⊢
  replace HBwb := Lib.hid HBwb
  replace HLwb := Lib.hid HLwb
  have hlwb : wa.heap.size < wb.heap.size := by omega
  replace hswb := Lib.hid hswb
  have HBwc := (Blk.new wb 85 #[.int .u64 0])
  have HLwc := (below_new wb (.cells #[.int .u64 0] 85))
  have hswc : (wb.alloc (.cells #[.int .u64 0] 85)).heap.size = wb.heap.size + 1 := by simp
  generalize wb.alloc (.cells #[.int .u64 0] 85) = wc at HBwc HLwc hswc ⊢
  replace HBwc := Lib.hid HBwc
  replace HLwc := Lib.hid HLwc
  have hlwc : wb.heap.size < wc.heap.size := by omega
  replace hswc := Lib.hid hswc
  have hsb : wa.heap.size = w.heap.size + 1 := hswa.out
  have hsc : wb.heap.size = w.heap.size + 1 + 1 := by have := hswb.out; omega
  have HC1 : Hid (Blk wc w.heap.size 28 #[.slice none 0 0]) := hide ((HBwa.out.below HLwb.out hlwa).below HLwc.out (by omega))
  have HC2 : Hid (Blk wc (w.heap.size + 1) 3 #[.int .i64 0]) := by
    have h := HBwb.out.below HLwc.out hlwb
    rw [hsb] at h
    exact hide h
  have HC3 : Hid (Blk wc (w.heap.size + 1 + 1) 85 #[.int .u64 0]) := by
    have h := HBwc.out
    rw [hsc] at h
    exact hide h
  have HL0 := Lib.hid ((HLwa.out.trans (HLwb.out.mono (by omega))).trans (HLwc.out.mono (by omega)))
  have hwc : w.heap.size + 1 + 1 < wc.heap.size := HC3.out.lt
  clear HBwa HBwb HBwc HLwa HLwb HLwc hswa hswb hswc hlwa hlwb hlwc hsb hsc
  go_loopw [7] (fun _ wr => ∃ (at_ lk1 : Nat) (out : List Rd) (v : Value), Blk wr w.heap.size 28 #[v] ∧ Blk wr (w.heap.size + 1) 3 #[.int .i64 (at_ : Int)] ∧ Blk wr (w.heap.size + 1 + 1) 85 #[.int .u64 (lk1 : Int)] ∧ ScanI b (l, s, lk) out at_ lk1 ∧ OwnRd wr wc.heap.size v out ∧ wc.heap.size ≤ wr.heap.size ∧ Below w.heap.size w wr) (fun _ wr => scanM n w.heap.size wr)
  case atStart => exact ⟨0, 0, [], _, HC1.out, HC2.out, HC3.out, H0.out, OwnRd.nil _ _, Nat.le_refl _, HL0.out⟩
  case round =>
    obtain ⟨at_, lk1, out, v, hx1, hx2, hx3, hI, hown, hwr, hbr⟩ := hrel
    obtain ⟨wo, rfl⟩ : ∃ wo : World, wo = wr := ⟨_, rfl⟩
    have HX1 := Lib.hid hx1
    have HX2 := Lib.hid hx2
    have HX3 := Lib.hid hx3
    have HI := Lib.hid hI
    have HO := Lib.hid hown
    have HB := Lib.hid hbr
    have hat : at_ ≤ n := by rw [← HL.out]; exact hI.le
    have hlk := hI.lt
    have hfew := hI.few
    have q1 := hx1.cell 0
    have q2 := hx2.cell 0
    have q3 := hx3.cell 0
    have f1 := hx1.frozen 0
    have f2 := hx2.frozen 0
    have f3 := hx3.frozen 0
    have hl1 := hx1.lt
    have hl2 := hx2.lt
    have hl3 := hx3.lt
    simp only [List.getElem?_toArray, List.getElem?_cons_zero] at q1 q2 q3
    have hv1 := own_one hown
    have HO' := HO
    clear hx1 hx2 hx3 hI hbr
    obtain ⟨oA, oc, rfl, ho1, ho2, _⟩ := own_open hown
    clear hown
    by_cases hlt : at_ < n
    · have hsl := slc_from A n c at_ hat
      have HRd := Lib.hid (Reads.from_ (HR.out.now HB.out) hat hc)
      have HRdd : Hid (Bytes wo.drew wo.drew.heap.size (cutA A c at_) (n - at_) (b.drop at_)) := hide HRd.out
      cases hnx : nextR lk1 (b.drop at_) with
      | none =>
        have HD := Lib.hid (HI.out.done hnx)
        have HNx := Lib.hid hnx
        clear hnx
        go_wp2_with fail
        have h0 : wo.drew.cell? ⟨w.heap.size + 1, 0, none⟩ = some (.int .i64 (at_ : Int)) ∧ wo.drew.cell? ⟨w.heap.size + 1 + 1, 0, none⟩ = some (.int .u64 (lk1 : Int)) := ⟨q2, q3⟩
        refine wp_region_held_drew (S := fun W => W.cell? ⟨w.heap.size + 1, 0, none⟩ = some (.int .i64 (at_ : Int)) ∧ W.cell? ⟨w.heap.size + 1 + 1, 0, none⟩ = some (.int .u64 (lk1 : Int))) (by kernel_rfl) (h0) (fun hHeld => ?_)
        refine held_run 0 (some 14) (.move (.tmp 0)) ?v3_1_2 (by rfl) (by kernel_rfl) (by kernel_rfl) (by kernel_rfl) (fun _ _ _ h => leaves_congr (results_put rfl _ (some 14) _ (by first | (rintro k ⟨⟩; decide) | rintro k ⟨⟩)) h) (fun o ho w hS => ?y3_1_2) (by assumption) ?r3_1_2
        case y3_1_2 => (try dsimp only at hS); unfold execOp; simp only [ho]; go_simp; try with_reducible rfl
        try simp only [Act.put, List.setIfInBounds_toArray, List.set_cons_zero, List.set_cons_succ]
        refine held_run 1 (some 15) (.load 3 (.tmp 3)) ?v3_1_3 (by rfl) (by kernel_rfl) (by kernel_rfl) (by kernel_rfl) (fun _ _ _ h => leaves_congr (results_put rfl _ (some 15) _ (by first | (rintro k ⟨⟩; decide) | rintro k ⟨⟩)) h) (fun o ho w hS => ?y3_1_3) (by assumption) ?r3_1_3
        case y3_1_3 => (try dsimp only at hS); unfold execOp; simp only [ho]; go_simp; try with_reducible rfl
        try simp only [Act.put, List.setIfInBounds_toArray, List.set_cons_zero, List.set_cons_succ]
        refine held_run 2 (some 16) (.slice 56 (.tmp 14) (some (.tmp 15)) none none) ?v3_1_4 (by rfl) (by kernel_rfl) (by kernel_rfl) (by kernel_rfl) (fun _ _ _ h => leaves_congr (results_put rfl _ (some 16) _ (by first | (rintro k ⟨⟩; decide) | rintro k ⟨⟩)) h) (fun o ho w hS => ?y3_1_4) (by assumption) ?r3_1_4
        case y3_1_4 => (try dsimp only at hS); unfold execOp; simp only [ho]; go_simp; try with_reducible rfl
        try simp only [Act.put, List.setIfInBounds_toArray, List.set_cons_zero, List.set_cons_succ]
        refine held_run 3 (some 17) (.load 85 (.tmp 4)) ?v3_1_5 (by rfl) (by kernel_rfl) (by kernel_rfl) (by kernel_rfl) (fun _ _ _ h => leaves_congr (results_put rfl _ (some 17) _ (by first | (rintro k ⟨⟩; decide) | rintro k ⟨⟩)) h) (fun o ho w hS => ?y3_1_5) (by assumption) ?r3_1_5
        case y3_1_5 => (try dsimp only at hS); unfold execOp; simp only [ho]; go_simp; try with_reducible rfl
        try simp only [Act.put, List.setIfInBounds_toArray, List.set_cons_zero, List.set_cons_succ]
        refine held_two 4 9 (by kernel_rfl) ?_ ?_
        · refine op_callp 4 (some 18) 52 [(.tmp 16), (.tmp 17)] #[56, 85] #[.slice (cutA A c at_) (n - at_) (c - at_), .int .u64 (lk1 : Int)] (by rfl) (by rfl) Try.func52 (by rfl) (by rfl) ?_
          refine (record_none HRdd.out (by omega) (by omega) (by omega) hlk HNx.out).mono ?_
          rintro e w4 ⟨rfl, hb4⟩
          refine .inr ⟨_, rfl, ?_⟩
          have HB4 := Lib.hid (HB.out.drew.trans (hb4.mono HB.out.size))
          have HX14 := Lib.hid (HX1.out.drew.below hb4 hl1)
          have HX24 := Lib.hid (HX2.out.drew.below hb4 hl2)
          have HX34 := Lib.hid (HX3.out.drew.below hb4 hl3)
          have HO4 := Lib.hid (own_below (w := wo.drew) HO'.out hb4 (Nat.le_refl _))
          refine leaves_cons (f := 51) (args := #[.pointer (some ⟨w.heap.size, 0, none⟩), .pointer (some ⟨w.heap.size + 1, 0, none⟩), .pointer (some ⟨w.heap.size + 1 + 1, 0, none⟩)]) (by simp) (by simp [go_sem]) ?_
          refine (catch_panicking _ _ _ _).mono ?_
          rintro e u' w5 ⟨rfl, rfl, hb5⟩
          have h := HD.out
          simp only [Prod.mk.injEq] at h
          obtain ⟨rfl, rfl, rfl⟩ := h
          have HX15 := HX14.out.below hb5 HX14.out.lt
          have HX25 := HX24.out.below hb5 HX24.out.lt
          have HX35 := HX34.out.below hb5 HX34.out.lt
          have HO5 := OwnRd.mono (own_below HO4.out hb5 (Nat.le_refl _)) (base' := w.heap.size) (by omega)
          exact ⟨_, res_ccc rfl _ _ ⟨w.heap.size, 0, none⟩ ⟨w.heap.size + 1, 0, none⟩ ⟨w.heap.size + 1 + 1, 0, none⟩ _ _ _ rfl rfl rfl (load_one Try.underlying28 rfl (by kernel_rfl) (HX15.cell 0)) (load_one Try.underlying3 rfl (by kernel_rfl) (HX25.cell 0)) (load_one Try.underlying85 rfl (by kernel_rfl) (HX35.cell 0)), _, rfl, HO5, HB4.out.trans (hb5.mono HB4.out.size)⟩
        · refine op_alloc 9 (some 5) 55 #[.int .i64 0, .int .i64 0, .int .i64 0, .int .i64 0, .int .i64 0, .int .i64 0, .int .i64 0] (by rfl) (by kernel_rfl) ?_
          intro w3 hx3 hb3
          have HB3 := Lib.hid (HB.out.drew.trans (hb3.mono HB.out.size))
          have HX13 := Lib.hid (HX1.out.drew.below hb3 hl1)
          have HX23 := Lib.hid (HX2.out.drew.below hb3 hl2)
          have HX33 := Lib.hid (HX3.out.drew.below hb3 hl3)
          have HO3 := Lib.hid (own_below (w := wo.drew) HO'.out hb3 (Nat.le_refl _))
          have HRd3 := Lib.hid (HRdd.out.now hb3)
          have h1 : w3.cell? ⟨w.heap.size + 1, 0, none⟩ = some (.int .i64 (at_ : Int)) ∧ w3.cell? ⟨w.heap.size + 1 + 1, 0, none⟩ = some (.int .u64 (lk1 : Int)) := ⟨HX23.out.cell 0, HX33.out.cell 0⟩
          clear h0 hx3 hb3
          have h0 := h1
          clear h1
          refine ⟨h0, ?_⟩
          try simp only [Act.put, List.setIfInBounds_toArray, List.set_cons_zero, List.set_cons_succ]
          refine held_one 4 (by kernel_rfl) ?_
          refine op_callp 4 (some 18) 52 [(.tmp 16), (.tmp 17)] #[56, 85] #[.slice (cutA A c at_) (n - at_) (c - at_), .int .u64 (lk1 : Int)] (by rfl) (by rfl) Try.func52 (by rfl) (by rfl) ?_
          refine (record_none HRd3.out (by omega) (by omega) (by omega) hlk HNx.out).mono ?_
          rintro e w4 ⟨rfl, hb4⟩
          refine .inr ⟨_, rfl, ?_⟩
          have HB4 := Lib.hid (HB3.out.trans (hb4.mono HB3.out.size))
          have HX14 := Lib.hid (HX13.out.below hb4 HX13.out.lt)
          have HX24 := Lib.hid (HX23.out.below hb4 HX23.out.lt)
          have HX34 := Lib.hid (HX33.out.below hb4 HX33.out.lt)
          have HO4 := Lib.hid (own_below HO3.out hb4 (Nat.le_refl _))
          refine leaves_cons (f := 51) (args := #[.pointer (some ⟨w.heap.size, 0, none⟩), .pointer (some ⟨w.heap.size + 1, 0, none⟩), .pointer (some ⟨w.heap.size + 1 + 1, 0, none⟩)]) (by simp) (by simp [go_sem]) ?_
          refine (catch_panicking _ _ _ _).mono ?_
          rintro e u' w5 ⟨rfl, rfl, hb5⟩
          have h := HD.out
          simp only [Prod.mk.injEq] at h
          obtain ⟨rfl, rfl, rfl⟩ := h
          have HX15 := HX14.out.below hb5 HX14.out.lt
          have HX25 := HX24.out.below hb5 HX24.out.lt
          have HX35 := HX34.out.below hb5 HX34.out.lt
          have HO5 := OwnRd.mono (own_below HO4.out hb5 (Nat.le_refl _)) (base' := w.heap.size) (by omega)
          exact ⟨_, res_ccc rfl _ _ ⟨w.heap.size, 0, none⟩ ⟨w.heap.size + 1, 0, none⟩ ⟨w.heap.size + 1 + 1, 0, none⟩ _ _ _ rfl rfl rfl (load_one Try.underlying28 rfl (by kernel_rfl) (HX15.cell 0)) (load_one Try.underlying3 rfl (by kernel_rfl) (HX25.cell 0)) (load_one Try.underlying85 rfl (by kernel_rfl) (HX35.cell 0)), _, rfl, HO5, HB4.out.trans (hb5.mono HB4.out.size)⟩
      | some x =>
        obtain ⟨r, k, lk2⟩ := x
        have HNx := Lib.hid hnx
        obtain ⟨hI2, h20, hle⟩ := HI.out.step hnx
        have HI2 := Lib.hid hI2
        have hkn : at_ + k ≤ n := by rw [← HL.out]; exact hle
        clear hnx hI2 hle
        go_wp2_with fail
        have h0 : wo.drew.cell? ⟨w.heap.size + 1, 0, none⟩ = some (.int .i64 (at_ : Int)) ∧ wo.drew.cell? ⟨w.heap.size + 1 + 1, 0, none⟩ = some (.int .u64 (lk1 : Int)) := ⟨q2, q3⟩
        refine wp_region_held_drew (S := fun W => W.cell? ⟨w.heap.size + 1, 0, none⟩ = some (.int .i64 (at_ : Int)) ∧ W.cell? ⟨w.heap.size + 1 + 1, 0, none⟩ = some (.int .u64 (lk1 : Int))) (by kernel_rfl) (h0) (fun hHeld => ?_)
        refine held_run 0 (some 14) (.move (.tmp 0)) ?v3_9_10 (by rfl) (by kernel_rfl) (by kernel_rfl) (by kernel_rfl) (fun _ _ _ h => leaves_congr (results_put rfl _ (some 14) _ (by first | (rintro k ⟨⟩; decide) | rintro k ⟨⟩)) h) (fun o ho w hS => ?y3_9_10) (by assumption) ?r3_9_10
        case y3_9_10 => (try dsimp only at hS); unfold execOp; simp only [ho]; go_simp; try with_reducible rfl
        try simp only [Act.put, List.setIfInBounds_toArray, List.set_cons_zero, List.set_cons_succ]
        refine held_run 1 (some 15) (.load 3 (.tmp 3)) ?v3_9_11 (by rfl) (by kernel_rfl) (by kernel_rfl) (by kernel_rfl) (fun _ _ _ h => leaves_congr (results_put rfl _ (some 15) _ (by first | (rintro k ⟨⟩; decide) | rintro k ⟨⟩)) h) (fun o ho w hS => ?y3_9_11) (by assumption) ?r3_9_11
        case y3_9_11 => (try dsimp only at hS); unfold execOp; simp only [ho]; go_simp; try with_reducible rfl
        try simp only [Act.put, List.setIfInBounds_toArray, List.set_cons_zero, List.set_cons_succ]
        refine held_run 2 (some 16) (.slice 56 (.tmp 14) (some (.tmp 15)) none none) ?v3_9_12 (by rfl) (by kernel_rfl) (by kernel_rfl) (by kernel_rfl) (fun _ _ _ h => leaves_congr (results_put rfl _ (some 16) _ (by first | (rintro k ⟨⟩; decide) | rintro k ⟨⟩)) h) (fun o ho w hS => ?y3_9_12) (by assumption) ?r3_9_12
        case y3_9_12 => (try dsimp only at hS); unfold execOp; simp only [ho]; go_simp; try with_reducible rfl
        try simp only [Act.put, List.setIfInBounds_toArray, List.set_cons_zero, List.set_cons_succ]
        refine held_run 3 (some 17) (.load 85 (.tmp 4)) ?v3_9_13 (by rfl) (by kernel_rfl) (by kernel_rfl) (by kernel_rfl) (fun _ _ _ h => leaves_congr (results_put rfl _ (some 17) _ (by first | (rintro k ⟨⟩; decide) | rintro k ⟨⟩)) h) (fun o ho w hS => ?y3_9_13) (by assumption) ?r3_9_13
        case y3_9_13 => (try dsimp only at hS); unfold execOp; simp only [ho]; go_simp; try with_reducible rfl
        try simp only [Act.put, List.setIfInBounds_toArray, List.set_cons_zero, List.set_cons_succ]
        refine held_two 4 9 (by kernel_rfl) ?_ ?_
        · refine op_call 4 (some 18) 52 [(.tmp 16), (.tmp 17)] #[56, 85] #[.slice (cutA A c at_) (n - at_) (c - at_), .int .u64 (lk1 : Int)] (by rfl) (by rfl) Try.func52 (by rfl) (by rfl) ?_
          refine (record_some HRdd.out (by omega) (by omega) (by omega) hlk HNx.out).mono ?_
          rintro e w3 ⟨rfl, hb3⟩
          have HB3 := Lib.hid (HB.out.drew.trans (hb3.mono HB.out.size))
          have HX13 := Lib.hid (HX1.out.drew.below hb3 hl1)
          have HX23 := Lib.hid (HX2.out.drew.below hb3 hl2)
          have HX33 := Lib.hid (HX3.out.drew.below hb3 hl3)
          have HO3 := Lib.hid (own_below (w := wo.drew) HO'.out hb3 (Nat.le_refl _))
          have h1 : w3.cell? ⟨w.heap.size + 1, 0, none⟩ = some (.int .i64 (at_ : Int)) ∧ w3.cell? ⟨w.heap.size + 1 + 1, 0, none⟩ = some (.int .u64 (lk1 : Int)) := ⟨HX23.out.cell 0, HX33.out.cell 0⟩
          clear h0
          have h0 := h1
          clear h1
          refine ⟨_, rfl, h0, ?_⟩
          try simp only [Act.put, List.setIfInBounds_toArray, List.set_cons_zero, List.set_cons_succ]
          refine held_run 5 (some 13) (.move (.tmp 18)) ?v3_9_15 (by rfl) (by kernel_rfl) (by kernel_rfl) (by kernel_rfl) (fun _ _ _ h => leaves_congr (results_put rfl _ (some 13) _ (by first | (rintro k ⟨⟩; decide) | rintro k ⟨⟩)) h) (fun o ho w hS => ?y3_9_15) (by assumption) ?r3_9_15
          case y3_9_15 => (try dsimp only at hS); unfold execOp; simp only [ho]; go_simp; try with_reducible rfl
          try simp only [Act.put, List.setIfInBounds_toArray, List.set_cons_zero, List.set_cons_succ]
          refine held_run 6 (some 19) (.extract (.tmp 13) 0) ?v3_9_16 (by rfl) (by kernel_rfl) (by kernel_rfl) (by kernel_rfl) (fun _ _ _ h => leaves_congr (results_put rfl _ (some 19) _ (by first | (rintro k ⟨⟩; decide) | rintro k ⟨⟩)) h) (fun o ho w hS => ?y3_9_16) (by assumption) ?r3_9_16
          case y3_9_16 => (try dsimp only at hS); unfold execOp; simp only [ho]; go_simp; try with_reducible rfl
          try simp only [Act.put, List.setIfInBounds_toArray, List.set_cons_zero, List.set_cons_succ]
          refine held_run 7 (some 20) (.extract (.tmp 13) 1) ?v3_9_17 (by rfl) (by kernel_rfl) (by kernel_rfl) (by kernel_rfl) (fun _ _ _ h => leaves_congr (results_put rfl _ (some 20) _ (by first | (rintro k ⟨⟩; decide) | rintro k ⟨⟩)) h) (fun o ho w hS => ?y3_9_17) (by assumption) ?r3_9_17
          case y3_9_17 => (try dsimp only at hS); unfold execOp; simp only [ho]; go_simp; try with_reducible rfl
          try simp only [Act.put, List.setIfInBounds_toArray, List.set_cons_zero, List.set_cons_succ]
          refine held_run 8 (some 21) (.extract (.tmp 13) 2) ?v3_9_18 (by rfl) (by kernel_rfl) (by kernel_rfl) (by kernel_rfl) (fun _ _ _ h => leaves_congr (results_put rfl _ (some 21) _ (by first | (rintro k ⟨⟩; decide) | rintro k ⟨⟩)) h) (fun o ho w hS => ?y3_9_18) (by assumption) ?r3_9_18
          case y3_9_18 => (try dsimp only at hS); unfold execOp; simp only [ho]; go_simp; try with_reducible rfl
          try simp only [Act.put, List.setIfInBounds_toArray, List.set_cons_zero, List.set_cons_succ]
          refine held_one 9 (by kernel_rfl) ?_
          refine op_alloc 9 (some 5) 55 #[.int .i64 0, .int .i64 0, .int .i64 0, .int .i64 0, .int .i64 0, .int .i64 0, .int .i64 0] (by rfl) (by kernel_rfl) ?_
          intro w4 hx4 hb4
          have HXr4 := Lib.hid hx4
          have HB4 := Lib.hid (HB3.out.trans (hb4.mono HB3.out.size))
          have HX14 := Lib.hid (HX13.out.below hb4 HX13.out.lt)
          have HX24 := Lib.hid (HX23.out.below hb4 HX23.out.lt)
          have HX34 := Lib.hid (HX33.out.below hb4 HX33.out.lt)
          have HO4 := Lib.hid (own_below HO3.out hb4 (Nat.le_refl _))
          have h1 : w4.cell? ⟨w.heap.size + 1, 0, none⟩ = some (.int .i64 (at_ : Int)) ∧ w4.cell? ⟨w.heap.size + 1 + 1, 0, none⟩ = some (.int .u64 (lk1 : Int)) := ⟨HX24.out.cell 0, HX34.out.cell 0⟩
          clear h0
          have h0 := h1
          clear h1
          refine ⟨h0, ?_⟩
          try simp only [Act.put, List.setIfInBounds_toArray, List.set_cons_zero, List.set_cons_succ]
          refine held_one 10 (by kernel_rfl) ?_
          refine op_store_blk 10 55 (.tmp 5) (.tmp 19) (by rfl) (w3.heap.size) #[.int .i64 r.gate, .int .i64 r.seq, .int .i64 r.ser, .int .i64 r.cnt, .int .i64 r.prod, .int .i64 r.lift, .int .i64 r.att] rfl rfl _ _ (HXr4.out) (by kernel_rfl) rfl (by simp [Value.oneCell']) ?_
          intro w5 hx5 hon5
          have hb5 := hon5.below (Below.refl w3.heap.size w4) (Nat.le_refl _)
          have HXr5 := Lib.hid hx5
          have HB5 := Lib.hid (hon5.below HB4.out HB3.out.size)
          have HX15 := Lib.hid (HX14.out.below hb5 HX13.out.lt)
          have HX25 := Lib.hid (HX24.out.below hb5 HX23.out.lt)
          have HX35 := Lib.hid (HX34.out.below hb5 HX33.out.lt)
          have HO5 := Lib.hid (hon5.own HO4.out (fun e => by have := (World.ownsRow.lt HO3.out _ e).2; omega))
          have h1 : w5.cell? ⟨w.heap.size + 1, 0, none⟩ = some (.int .i64 (at_ : Int)) ∧ w5.cell? ⟨w.heap.size + 1 + 1, 0, none⟩ = some (.int .u64 (lk1 : Int)) := ⟨HX25.out.cell 0, HX35.out.cell 0⟩
          clear h0
          have h0 := h1
          clear h1
          have HW5 : Hid (wc.heap.size ≤ w5.heap.size) := by show _ ≤ _; rw [hon5.size]; have := hb3.size; have := hb4.size; exact Nat.le_trans hwr (Nat.le_trans hb3.size hb4.size)
          generalize w3.heap.size = G at HXr5 ⊢
          refine ⟨h0, ?_⟩
          try simp only [Act.put]
          refine held_run 11 (some 6) (.assign (.tmp 20)) ?v3_9_21 (by rfl) (by kernel_rfl) (by kernel_rfl) (by kernel_rfl) (fun _ _ _ h => leaves_congr (results_put rfl _ (some 6) _ (by first | (rintro k ⟨⟩; decide) | rintro k ⟨⟩)) h) (fun o ho w hS => ?y3_9_21) (by assumption) ?r3_9_21
          case y3_9_21 => (try dsimp only at hS); unfold execOp; simp only [ho]; go_simp; try with_reducible rfl
          try simp only [Act.put, List.setIfInBounds_toArray, List.set_cons_zero, List.set_cons_succ]
          refine held_run 12 (some 7) (.assign (.tmp 21)) ?v3_9_22 (by rfl) (by kernel_rfl) (by kernel_rfl) (by kernel_rfl) (fun _ _ _ h => leaves_congr (results_put rfl _ (some 7) _ (by first | (rintro k ⟨⟩; decide) | rintro k ⟨⟩)) h) (fun o ho w hS => ?y3_9_22) (by assumption) ?r3_9_22
          case y3_9_22 => (try dsimp only at hS); unfold execOp; simp only [ho]; go_simp; try with_reducible rfl
          try simp only [Act.put, List.setIfInBounds_toArray, List.set_cons_zero, List.set_cons_succ]
          refine wpAnyH_done (by kernel_rfl) ?_ _
          have hw5' : wc.heap.size ≤ w5.heap.size := HW5.out
          have q15 := HX15.out.cell 0
          have q25 := HX25.out.cell 0
          have q35 := HX35.out.cell 0
          simp only [List.getElem?_toArray, List.getElem?_cons_zero] at q15 q25 q35
          clear h0 q1 q3
          go_wp2_with (first
            | (refine wpList_load_g 55 (.tmp 5) rfl rfl G rfl _ _ HXr5.out _ Try.underlying55 rfl (by kernel_rfl) ?_)
            | (at_builtin
               refine wpList_app_lit ei_rd rfl (.tmp 22) (.tmp 24) rfl wc.heap.size (.slice oA out.length oc) out.length (out.map Rd.cells).flatten rfl HO5.out 1 rfl rfl (by simp [Value.oneCell']) (by simp only [maxLen]; omega) (by omega) (by omega) ?_
               intro v6 w6 hown6 hb6 hg6 hat6
               have HO6 : Hid (OwnRd w6 wc.heap.size v6 (out ++ [r])) := hide (OwnRd.snoc hown6 rfl rfl)
               have HB6 := Lib.hid (HB5.out.trans (hb6.mono (by omega)))
               have HX16 := Lib.hid (HX15.out.below hb6 (by omega))
               have HX26 := Lib.hid (HX25.out.below hb6 (by omega))
               have HX36 := Lib.hid (HX35.out.below hb6 (by omega))
               have hw6 : wc.heap.size ≤ w6.heap.size := Nat.le_trans hw5' hb6.size
               obtain ⟨A6, c6, rfl, _, _, _⟩ := own_open hown6
               have hz6 : (Value.slice A6 (out.length + 1) c6).ownBlock ≠ some w.heap.size ∧ (Value.slice A6 (out.length + 1) c6).ownBlock ≠ some (w.heap.size + 1) ∧ (Value.slice A6 (out.length + 1) c6).ownBlock ≠ some (w.heap.size + 1 + 1) := ⟨fun e => by have := (World.ownsRow.lt HO6.out _ e).1; omega, fun e => by have := (World.ownsRow.lt HO6.out _ e).1; omega, fun e => by have := (World.ownsRow.lt HO6.out _ e).1; omega⟩
               have HZ6 := Lib.hid hz6
               clear hown6 hb6 hg6 hat6 hz6 q15)
            | (refine wpList_store_field 28 (.tmp 2) (.tmp 25) rfl rfl w.heap.size 0 (.slice A6 (out.length + 1) c6) rfl rfl _ _ HX16.out (by kernel_rfl) (by simp) rfl rfl ?_
               intro w7 hx7 hon7
               have HX17 : Hid (Blk w7 w.heap.size 28 #[.slice A6 (out.length + 1) c6]) := hide hx7
               have HX27 := Lib.hid (hon7.blk HX26.out (by omega))
               have HX37 := Lib.hid (hon7.blk HX36.out (by omega))
               have HB7 := Lib.hid (hon7.below HB6.out (Nat.le_refl _))
               have HO7 := Lib.hid (hon7.own HO6.out HZ6.out.1)
               have hw7 : wc.heap.size ≤ w7.heap.size := by rw [hon7.size]; exact hw6
               have q27 := HX27.out.cell 0
               simp only [List.getElem?_toArray, List.getElem?_cons_zero] at q27
               clear hx7 hon7 q25)
            | (refine wpList_store_field 3 (.tmp 3) (.tmp 28) rfl rfl (w.heap.size + 1) 0 (.int .i64 ((at_ : Int) + (k : Int))) rfl rfl _ _ HX27.out (by kernel_rfl) (by simp) rfl rfl ?_
               intro w8 hx8 hon8
               have HX28 : Hid (Blk w8 (w.heap.size + 1) 3 #[.int .i64 ((at_ + k : Nat) : Int)]) := by rw [Int.natCast_add]; exact hide hx8
               have HX18 := Lib.hid (hon8.blk HX17.out (by omega))
               have HX38 := Lib.hid (hon8.blk HX37.out (by omega))
               have HB8 := Lib.hid (hon8.below HB7.out (by omega))
               have HO8 := Lib.hid (hon8.own HO7.out HZ6.out.2.1)
               have hw8 : wc.heap.size ≤ w8.heap.size := by rw [hon8.size]; exact hw7
               clear hx8 hon8 q27)
            | (refine wpList_store_field 85 (.tmp 4) (.tmp 29) rfl rfl (w.heap.size + 1 + 1) 0 (.int .u64 (lk2 : Int)) rfl rfl _ _ HX38.out (by kernel_rfl) (by simp) rfl rfl ?_
               intro w9 hx9 hon9
               have HX39 : Hid (Blk w9 (w.heap.size + 1 + 1) 85 #[.int .u64 (lk2 : Int)]) := hide hx9
               have HX19 := Lib.hid (hon9.blk HX18.out (by omega))
               have HX29 := Lib.hid (hon9.blk HX28.out (by omega))
               have HB9 := Lib.hid (hon9.below HB8.out (by omega))
               have HO9 := Lib.hid (hon9.own HO8.out HZ6.out.2.2)
               have hw9 : wc.heap.size ≤ w9.heap.size := by rw [hon9.size]; exact hw8
               clear hx9 hon9))
          go_roundw
          case rel => exact ⟨at_ + k, lk2, out ++ [r], _, HX19.out, HX29.out, HX39.out, HI2.out, HO9.out, HB9.out⟩
          case measure =>
            rw [scanM_eq (HX29.out.cell 0), scanM_eq q2]
            omega
        · refine op_alloc 9 (some 5) 55 #[.int .i64 0, .int .i64 0, .int .i64 0, .int .i64 0, .int .i64 0, .int .i64 0, .int .i64 0] (by rfl) (by kernel_rfl) ?_
          intro w3 hx3 hb3
          have HXr3 := Lib.hid hx3
          have HRd3 := Lib.hid (HRdd.out.now hb3)
          have HB3 := Lib.hid (HB.out.drew.trans (hb3.mono HB.out.size))
          have HX13 := Lib.hid (HX1.out.drew.below hb3 hl1)
          have HX23 := Lib.hid (HX2.out.drew.below hb3 hl2)
          have HX33 := Lib.hid (HX3.out.drew.below hb3 hl3)
          have HO3 := Lib.hid (own_below (w := wo.drew) HO'.out hb3 (Nat.le_refl _))
          have h1 : w3.cell? ⟨w.heap.size + 1, 0, none⟩ = some (.int .i64 (at_ : Int)) ∧ w3.cell? ⟨w.heap.size + 1 + 1, 0, none⟩ = some (.int .u64 (lk1 : Int)) := ⟨HX23.out.cell 0, HX33.out.cell 0⟩
          clear h0
          have h0 := h1
          clear h1
          refine ⟨h0, ?_⟩
          try simp only [Act.put, List.setIfInBounds_toArray, List.set_cons_zero, List.set_cons_succ]
          refine held_call 4 (some 18) 52 [(.tmp 16), (.tmp 17)] #[56, 85] #[.slice (cutA A c at_) (n - at_) (c - at_), .int .u64 (lk1 : Int)] (by rfl) (by rfl) (by kernel_rfl) Try.func52 (by rfl) (by rfl) ?_
          refine (record_some HRd3.out (by omega) (by omega) (by omega) hlk HNx.out).mono ?_
          rintro e w4 ⟨rfl, hb4⟩
          have HXr4 := Lib.hid (HXr3.out.below hb4 HXr3.out.lt)
          have HB4 := Lib.hid (HB3.out.trans (hb4.mono HB3.out.size))
          have HX14 := Lib.hid (HX13.out.below hb4 HX13.out.lt)
          have HX24 := Lib.hid (HX23.out.below hb4 HX23.out.lt)
          have HX34 := Lib.hid (HX33.out.below hb4 HX33.out.lt)
          have HO4 := Lib.hid (own_below HO3.out hb4 (Nat.le_refl _))
          have h1 : w4.cell? ⟨w.heap.size + 1, 0, none⟩ = some (.int .i64 (at_ : Int)) ∧ w4.cell? ⟨w.heap.size + 1 + 1, 0, none⟩ = some (.int .u64 (lk1 : Int)) := ⟨HX24.out.cell 0, HX34.out.cell 0⟩
          clear h0
          have h0 := h1
          clear h1
          refine ⟨_, rfl, h0, ?_⟩
          try simp only [Act.put, List.setIfInBounds_toArray, List.set_cons_zero, List.set_cons_succ]
          refine held_run 5 (some 13) (.move (.tmp 18)) ?v3_9_25 (by rfl) (by kernel_rfl) (by kernel_rfl) (by kernel_rfl) (fun _ _ _ h => leaves_congr (results_put rfl _ (some 13) _ (by first | (rintro k ⟨⟩; decide) | rintro k ⟨⟩)) h) (fun o ho w hS => ?y3_9_25) (by assumption) ?r3_9_25
          case y3_9_25 => (try dsimp only at hS); unfold execOp; simp only [ho]; go_simp; try with_reducible rfl
          try simp only [Act.put, List.setIfInBounds_toArray, List.set_cons_zero, List.set_cons_succ]
          refine held_run 6 (some 19) (.extract (.tmp 13) 0) ?v3_9_26 (by rfl) (by kernel_rfl) (by kernel_rfl) (by kernel_rfl) (fun _ _ _ h => leaves_congr (results_put rfl _ (some 19) _ (by first | (rintro k ⟨⟩; decide) | rintro k ⟨⟩)) h) (fun o ho w hS => ?y3_9_26) (by assumption) ?r3_9_26
          case y3_9_26 => (try dsimp only at hS); unfold execOp; simp only [ho]; go_simp; try with_reducible rfl
          try simp only [Act.put, List.setIfInBounds_toArray, List.set_cons_zero, List.set_cons_succ]
          refine held_run 7 (some 20) (.extract (.tmp 13) 1) ?v3_9_27 (by rfl) (by kernel_rfl) (by kernel_rfl) (by kernel_rfl) (fun _ _ _ h => leaves_congr (results_put rfl _ (some 20) _ (by first | (rintro k ⟨⟩; decide) | rintro k ⟨⟩)) h) (fun o ho w hS => ?y3_9_27) (by assumption) ?r3_9_27
          case y3_9_27 => (try dsimp only at hS); unfold execOp; simp only [ho]; go_simp; try with_reducible rfl
          try simp only [Act.put, List.setIfInBounds_toArray, List.set_cons_zero, List.set_cons_succ]
          refine held_run 8 (some 21) (.extract (.tmp 13) 2) ?v3_9_28 (by rfl) (by kernel_rfl) (by kernel_rfl) (by kernel_rfl) (fun _ _ _ h => leaves_congr (results_put rfl _ (some 21) _ (by first | (rintro k ⟨⟩; decide) | rintro k ⟨⟩)) h) (fun o ho w hS => ?y3_9_28) (by assumption) ?r3_9_28
          case y3_9_28 => (try dsimp only at hS); unfold execOp; simp only [ho]; go_simp; try with_reducible rfl
          try simp only [Act.put, List.setIfInBounds_toArray, List.set_cons_zero, List.set_cons_succ]
          refine held_one 10 (by kernel_rfl) ?_
          refine op_store_blk 10 55 (.tmp 5) (.tmp 19) (by rfl) (wo.drew.heap.size) #[.int .i64 r.gate, .int .i64 r.seq, .int .i64 r.ser, .int .i64 r.cnt, .int .i64 r.prod, .int .i64 r.lift, .int .i64 r.att] rfl rfl _ _ (HXr4.out) (by kernel_rfl) rfl (by simp [Value.oneCell']) ?_
          intro w5 hx5 hon5
          have hb5 := hon5.below (Below.refl wo.drew.heap.size w4) (Nat.le_refl _)
          have HXr5 := Lib.hid hx5
          have HB5 := Lib.hid (hon5.below HB4.out HB.out.size)
          have HX15 := Lib.hid (HX14.out.below hb5 hl1)
          have HX25 := Lib.hid (HX24.out.below hb5 hl2)
          have HX35 := Lib.hid (HX34.out.below hb5 hl3)
          have HO5 := Lib.hid (hon5.own HO4.out (fun e => by have h := (World.ownsRow.lt HO'.out _ e).2; exact absurd h (Nat.lt_irrefl _)))
          have h1 : w5.cell? ⟨w.heap.size + 1, 0, none⟩ = some (.int .i64 (at_ : Int)) ∧ w5.cell? ⟨w.heap.size + 1 + 1, 0, none⟩ = some (.int .u64 (lk1 : Int)) := ⟨HX25.out.cell 0, HX35.out.cell 0⟩
          clear h0
          have h0 := h1
          clear h1
          have HW5 : Hid (wc.heap.size ≤ w5.heap.size) := by show _ ≤ _; rw [hon5.size]; exact Nat.le_trans hwr (Nat.le_trans hb3.size hb4.size)
          generalize wo.drew.heap.size = G at HXr5 ⊢
          refine ⟨h0, ?_⟩
          try simp only [Act.put]
          refine held_run 11 (some 6) (.assign (.tmp 20)) ?v3_9_30 (by rfl) (by kernel_rfl) (by kernel_rfl) (by kernel_rfl) (fun _ _ _ h => leaves_congr (results_put rfl _ (some 6) _ (by first | (rintro k ⟨⟩; decide) | rintro k ⟨⟩)) h) (fun o ho w hS => ?y3_9_30) (by assumption) ?r3_9_30
          case y3_9_30 => (try dsimp only at hS); unfold execOp; simp only [ho]; go_simp; try with_reducible rfl
          try simp only [Act.put, List.setIfInBounds_toArray, List.set_cons_zero, List.set_cons_succ]
          refine held_run 12 (some 7) (.assign (.tmp 21)) ?v3_9_31 (by rfl) (by kernel_rfl) (by kernel_rfl) (by kernel_rfl) (fun _ _ _ h => leaves_congr (results_put rfl _ (some 7) _ (by first | (rintro k ⟨⟩; decide) | rintro k ⟨⟩)) h) (fun o ho w hS => ?y3_9_31) (by assumption) ?r3_9_31
          case y3_9_31 => (try dsimp only at hS); unfold execOp; simp only [ho]; go_simp; try with_reducible rfl
          try simp only [Act.put, List.setIfInBounds_toArray, List.set_cons_zero, List.set_cons_succ]
          refine wpAnyH_done (by kernel_rfl) ?_ _
          have hw5' : wc.heap.size ≤ w5.heap.size := HW5.out
          have q15 := HX15.out.cell 0
          have q25 := HX25.out.cell 0
          have q35 := HX35.out.cell 0
          simp only [List.getElem?_toArray, List.getElem?_cons_zero] at q15 q25 q35
          clear h0 q1 q3
          go_wp2_with (first
            | (refine wpList_load_g 55 (.tmp 5) rfl rfl G rfl _ _ HXr5.out _ Try.underlying55 rfl (by kernel_rfl) ?_)
            | (at_builtin
               refine wpList_app_lit ei_rd rfl (.tmp 22) (.tmp 24) rfl wc.heap.size (.slice oA out.length oc) out.length (out.map Rd.cells).flatten rfl HO5.out 1 rfl rfl (by simp [Value.oneCell']) (by simp only [maxLen]; omega) (by omega) (by omega) ?_
               intro v6 w6 hown6 hb6 hg6 hat6
               have HO6 : Hid (OwnRd w6 wc.heap.size v6 (out ++ [r])) := hide (OwnRd.snoc hown6 rfl rfl)
               have HB6 := Lib.hid (HB5.out.trans (hb6.mono (by omega)))
               have HX16 := Lib.hid (HX15.out.below hb6 (by omega))
               have HX26 := Lib.hid (HX25.out.below hb6 (by omega))
               have HX36 := Lib.hid (HX35.out.below hb6 (by omega))
               have hw6 : wc.heap.size ≤ w6.heap.size := Nat.le_trans hw5' hb6.size
               obtain ⟨A6, c6, rfl, _, _, _⟩ := own_open hown6
               have hz6 : (Value.slice A6 (out.length + 1) c6).ownBlock ≠ some w.heap.size ∧ (Value.slice A6 (out.length + 1) c6).ownBlock ≠ some (w.heap.size + 1) ∧ (Value.slice A6 (out.length + 1) c6).ownBlock ≠ some (w.heap.size + 1 + 1) := ⟨fun e => by have := (World.ownsRow.lt HO6.out _ e).1; omega, fun e => by have := (World.ownsRow.lt HO6.out _ e).1; omega, fun e => by have := (World.ownsRow.lt HO6.out _ e).1; omega⟩
               have HZ6 := Lib.hid hz6
               clear hown6 hb6 hg6 hat6 hz6 q15)
            | (refine wpList_store_field 28 (.tmp 2) (.tmp 25) rfl rfl w.heap.size 0 (.slice A6 (out.length + 1) c6) rfl rfl _ _ HX16.out (by kernel_rfl) (by simp) rfl rfl ?_
               intro w7 hx7 hon7
               have HX17 : Hid (Blk w7 w.heap.size 28 #[.slice A6 (out.length + 1) c6]) := hide hx7
               have HX27 := Lib.hid (hon7.blk HX26.out (by omega))
               have HX37 := Lib.hid (hon7.blk HX36.out (by omega))
               have HB7 := Lib.hid (hon7.below HB6.out (Nat.le_refl _))
               have HO7 := Lib.hid (hon7.own HO6.out HZ6.out.1)
               have hw7 : wc.heap.size ≤ w7.heap.size := by rw [hon7.size]; exact hw6
               have q27 := HX27.out.cell 0
               simp only [List.getElem?_toArray, List.getElem?_cons_zero] at q27
               clear hx7 hon7 q25)
            | (refine wpList_store_field 3 (.tmp 3) (.tmp 28) rfl rfl (w.heap.size + 1) 0 (.int .i64 ((at_ : Int) + (k : Int))) rfl rfl _ _ HX27.out (by kernel_rfl) (by simp) rfl rfl ?_
               intro w8 hx8 hon8
               have HX28 : Hid (Blk w8 (w.heap.size + 1) 3 #[.int .i64 ((at_ + k : Nat) : Int)]) := by rw [Int.natCast_add]; exact hide hx8
               have HX18 := Lib.hid (hon8.blk HX17.out (by omega))
               have HX38 := Lib.hid (hon8.blk HX37.out (by omega))
               have HB8 := Lib.hid (hon8.below HB7.out (by omega))
               have HO8 := Lib.hid (hon8.own HO7.out HZ6.out.2.1)
               have hw8 : wc.heap.size ≤ w8.heap.size := by rw [hon8.size]; exact hw7
               clear hx8 hon8 q27)
            | (refine wpList_store_field 85 (.tmp 4) (.tmp 29) rfl rfl (w.heap.size + 1 + 1) 0 (.int .u64 (lk2 : Int)) rfl rfl _ _ HX38.out (by kernel_rfl) (by simp) rfl rfl ?_
               intro w9 hx9 hon9
               have HX39 : Hid (Blk w9 (w.heap.size + 1 + 1) 85 #[.int .u64 (lk2 : Int)]) := hide hx9
               have HX19 := Lib.hid (hon9.blk HX18.out (by omega))
               have HX29 := Lib.hid (hon9.blk HX28.out (by omega))
               have HB9 := Lib.hid (hon9.below HB8.out (by omega))
               have HO9 := Lib.hid (hon9.own HO8.out HZ6.out.2.2)
               have hw9 : wc.heap.size ≤ w9.heap.size := by rw [hon9.size]; exact hw8
               clear hx9 hon9))
          go_roundw
          case rel => exact ⟨at_ + k, lk2, out ++ [r], _, HX19.out, HX29.out, HX39.out, HI2.out, HO9.out, HB9.out⟩
          case measure =>
            rw [scanM_eq (HX29.out.cell 0), scanM_eq q2]
            omega
    · obtain rfl : at_ = n := by omega
      have HD : Hid ((l, s, lk) = (out, at_, lk1)) := by
        have h := HI.out
        rw [← HL.out] at h ⊢
        exact hide h.full
      go_wp2_with fail
      have h0 : wo.drew.cell? ⟨w.heap.size, 0, none⟩ = some (.slice oA out.length oc) ∧ wo.drew.cell? ⟨w.heap.size + 1, 0, none⟩ = some (.int .i64 (at_ : Int)) ∧ wo.drew.cell? ⟨w.heap.size + 1 + 1, 0, none⟩ = some (.int .u64 (lk1 : Int)) := ⟨q1, q2, q3⟩
      have HX1d : Hid (Blk wo.drew w.heap.size 28 #[.slice oA out.length oc]) := HX1
      have HX2d : Hid (Blk wo.drew (w.heap.size + 1) 3 #[.int .i64 (at_ : Int)]) := HX2
      have HX3d : Hid (Blk wo.drew (w.heap.size + 1 + 1) 85 #[.int .u64 (lk1 : Int)]) := HX3
      have hz : (Value.slice oA out.length oc).ownBlock ≠ some w.heap.size ∧ (Value.slice oA out.length oc).ownBlock ≠ some (w.heap.size + 1) ∧ (Value.slice oA out.length oc).ownBlock ≠ some (w.heap.size + 1 + 1) := ⟨fun e => by have := (World.ownsRow.lt HO'.out _ e).1; omega, fun e => by have := (World.ownsRow.lt HO'.out _ e).1; omega, fun e => by have := (World.ownsRow.lt HO'.out _ e).1; omega⟩
      have HZ := Lib.hid hz
      have HOd : Hid (OwnRd wo.drew wc.heap.size (.slice oA out.length oc) out) := hide HO'.out
      have HBd : Hid (Below w.heap.size w wo.drew) := hide HB.out.drew
      clear hz
      refine wp_region_held_drew (S := fun W => W.cell? ⟨w.heap.size, 0, none⟩ = some (.slice oA out.length oc) ∧ W.cell? ⟨w.heap.size + 1, 0, none⟩ = some (.int .i64 (at_ : Int)) ∧ W.cell? ⟨w.heap.size + 1 + 1, 0, none⟩ = some (.int .u64 (lk1 : Int))) (by kernel_rfl) (h0) (fun hHeld => ?_)
      refine held_run 0 (some 30) (.load 28 (.tmp 2)) ?v7_32_33 (by rfl) (by kernel_rfl) (by kernel_rfl) (by kernel_rfl) (fun _ _ _ h => leaves_congr (results_put rfl _ (some 30) _ (by first | (rintro k ⟨⟩; decide) | rintro k ⟨⟩)) h) (fun o ho w hS => ?y7_32_33) (by assumption) ?r7_32_33
      case y7_32_33 => (try dsimp only at hS); unfold execOp; simp only [ho]; go_simp; try with_reducible rfl
      try simp only [Act.put, List.setIfInBounds_toArray, List.set_cons_zero, List.set_cons_succ]
      refine held_run 1 (some 31) (.load 3 (.tmp 3)) ?v7_32_34 (by rfl) (by kernel_rfl) (by kernel_rfl) (by kernel_rfl) (fun _ _ _ h => leaves_congr (results_put rfl _ (some 31) _ (by first | (rintro k ⟨⟩; decide) | rintro k ⟨⟩)) h) (fun o ho w hS => ?y7_32_34) (by assumption) ?r7_32_34
      case y7_32_34 => (try dsimp only at hS); unfold execOp; simp only [ho]; go_simp; try with_reducible rfl
      try simp only [Act.put, List.setIfInBounds_toArray, List.set_cons_zero, List.set_cons_succ]
      refine held_run 2 (some 32) (.load 85 (.tmp 4)) ?v7_32_35 (by rfl) (by kernel_rfl) (by kernel_rfl) (by kernel_rfl) (fun _ _ _ h => leaves_congr (results_put rfl _ (some 32) _ (by first | (rintro k ⟨⟩; decide) | rintro k ⟨⟩)) h) (fun o ho w hS => ?y7_32_35) (by assumption) ?r7_32_35
      case y7_32_35 => (try dsimp only at hS); unfold execOp; simp only [ho]; go_simp; try with_reducible rfl
      try simp only [Act.put, List.setIfInBounds_toArray, List.set_cons_zero, List.set_cons_succ]
      refine held_store 3 28 (.tmp 2) (.tmp 30) (by rfl) (by kernel_rfl) (w.heap.size) 0 (.slice oA out.length oc) (by rfl) (by rfl) _ _ (HX1d.out) (by kernel_rfl) (by simp) rfl rfl ?_
      intro w3 hx3 hon3
      have HX13 : Hid (Blk w3 w.heap.size 28 #[.slice oA out.length oc]) := hide hx3
      have HX23 := Lib.hid (hon3.blk HX2d.out (by omega))
      have HX33 := Lib.hid (hon3.blk HX3d.out (by omega))
      have HB3 := Lib.hid (hon3.below HBd.out (Nat.le_refl _))
      have HO3 := Lib.hid (hon3.own HOd.out HZ.out.1)
      clear h0
      have h0 : w3.cell? ⟨w.heap.size, 0, none⟩ = some (.slice oA out.length oc) ∧ w3.cell? ⟨w.heap.size + 1, 0, none⟩ = some (.int .i64 (at_ : Int)) ∧ w3.cell? ⟨w.heap.size + 1 + 1, 0, none⟩ = some (.int .u64 (lk1 : Int)) := ⟨HX13.out.cell 0, HX23.out.cell 0, HX33.out.cell 0⟩
      clear hx3 hon3
      refine ⟨h0, ?_⟩
      try simp only [Act.put, List.setIfInBounds_toArray, List.set_cons_zero, List.set_cons_succ]
      refine held_store 4 3 (.tmp 3) (.tmp 31) (by rfl) (by kernel_rfl) (w.heap.size + 1) 0 (.int .i64 (at_ : Int)) (by rfl) (by rfl) _ _ (HX23.out) (by kernel_rfl) (by simp) rfl rfl ?_
      intro w4 hx4 hon4
      have HX24 : Hid (Blk w4 (w.heap.size + 1) 3 #[.int .i64 (at_ : Int)]) := hide hx4
      have HX14 := Lib.hid (hon4.blk HX13.out (by omega))
      have HX34 := Lib.hid (hon4.blk HX33.out (by omega))
      have HB4 := Lib.hid (hon4.below HB3.out (by omega))
      have HO4 := Lib.hid (hon4.own HO3.out HZ.out.2.1)
      clear h0
      have h0 : w4.cell? ⟨w.heap.size, 0, none⟩ = some (.slice oA out.length oc) ∧ w4.cell? ⟨w.heap.size + 1, 0, none⟩ = some (.int .i64 (at_ : Int)) ∧ w4.cell? ⟨w.heap.size + 1 + 1, 0, none⟩ = some (.int .u64 (lk1 : Int)) := ⟨HX14.out.cell 0, HX24.out.cell 0, HX34.out.cell 0⟩
      clear hx4 hon4
      refine ⟨h0, ?_⟩
      try simp only [Act.put, List.setIfInBounds_toArray, List.set_cons_zero, List.set_cons_succ]
      refine held_store 5 85 (.tmp 4) (.tmp 32) (by rfl) (by kernel_rfl) (w.heap.size + 1 + 1) 0 (.int .u64 (lk1 : Int)) (by rfl) (by rfl) _ _ (HX34.out) (by kernel_rfl) (by simp) rfl rfl ?_
      intro w5 hx5 hon5
      have HX35 : Hid (Blk w5 (w.heap.size + 1 + 1) 85 #[.int .u64 (lk1 : Int)]) := hide hx5
      have HX15 := Lib.hid (hon5.blk HX14.out (by omega))
      have HX25 := Lib.hid (hon5.blk HX24.out (by omega))
      have HB5 := Lib.hid (hon5.below HB4.out (by omega))
      have HO5 := Lib.hid (hon5.own HO4.out HZ.out.2.2)
      clear h0
      have h0 : w5.cell? ⟨w.heap.size, 0, none⟩ = some (.slice oA out.length oc) ∧ w5.cell? ⟨w.heap.size + 1, 0, none⟩ = some (.int .i64 (at_ : Int)) ∧ w5.cell? ⟨w.heap.size + 1 + 1, 0, none⟩ = some (.int .u64 (lk1 : Int)) := ⟨HX15.out.cell 0, HX25.out.cell 0, HX35.out.cell 0⟩
      clear hx5 hon5
      refine ⟨h0, ?_⟩
      try simp only [Act.put, List.setIfInBounds_toArray, List.set_cons_zero, List.set_cons_succ]
      refine wpAnyH_done (by kernel_rfl) ?_ _
      clear h0
      go_wp2_with fail
      refine leaves_cons (f := 51) (args := #[.pointer (some ⟨w.heap.size, 0, none⟩), .pointer (some ⟨w.heap.size + 1, 0, none⟩), .pointer (some ⟨w.heap.size + 1 + 1, 0, none⟩)]) (by simp) (by simp [go_sem]) ?_
      refine (catch_idle _ _ _ _).mono ?_
      rintro e u' w6 ⟨rfl, rfl, rfl⟩
      have h := HD.out
      simp only [Prod.mk.injEq] at h
      obtain ⟨rfl, rfl, rfl⟩ := h
      exact ⟨_, res_ccc rfl _ _ ⟨w.heap.size, 0, none⟩ ⟨w.heap.size + 1, 0, none⟩ ⟨w.heap.size + 1 + 1, 0, none⟩ _ _ _ rfl rfl rfl (load_one Try.underlying28 rfl (by kernel_rfl) (HX15.out.cell 0)) (load_one Try.underlying3 rfl (by kernel_rfl) (HX25.out.cell 0)) (load_one Try.underlying85 rfl (by kernel_rfl) (HX35.out.cell 0)), _, rfl, OwnRd.mono HO5.out (by omega), HB5.out⟩
set_option maxRecDepth 100000 in
theorem Read_any (A : Option Addr) (n c : Nat) (b : List UInt8) (l : List Rd) (s lk : Nat) (w : World) (hr : Bytes w w.heap.size A n b) (hn : n ≤ 1000000) (hc : n ≤ c) (hc2 : c ≤ maxLen) (hT : scanR 0 b = (l, s, lk)) :
    Calls Try.prog 21 #[.slice A n c] w fun e w' => ∃ v, e = .returned (.tuple #[v, .int .i64 (s : Int)]) ∧ OwnRd w' w.heap.size v l ∧ Below w.heap.size w w' := by
  go_enter Try.func21, Try.ntmps21
  go_wp2_with fail
  with_reducible refine (scan_any A n c b l s lk _ hr hn hc hc2 hT).mono ?_
  rintro e w1 ⟨v1, rfl, hown1, hb1⟩
  go_wp2_with fail
  go_ret2
  exact ⟨_, rfl, hown1, hb1⟩
end

end Go.Proofs.Ytedeggjefnpjgaa
