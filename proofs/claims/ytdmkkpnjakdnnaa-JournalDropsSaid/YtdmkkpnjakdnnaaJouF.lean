/-
  Chapter 29: next of the reference, walked.
-/
import Derived.Test.YtdmkkpnjakdnnaaJouE
import Derived.Test.YtdmkkpnjakdnnaaRegC
import Derived.Test.YtdmkkpnjakdnnaaRegA
namespace Go.Proofs.Ytdmkkpnjakdnnaa
open Go.RowKit

/-- the address of b[k:] -/
def cutA (A : Option Addr) (c k : Nat) : Option Addr := if c = k then A else A.map (·.add k)
theorem slc_from (A : Option Addr) (n c k : Nat) (hk : k ≤ n) (W : World) : (Instr.sliceAt 24 (.slice A n c) (some (.int .i64 (k : Int))) none none).run Try.prog W = .ok (.slice (cutA A c k) (n - k) (c - k)) W := by
  have hs : (sizeOf (Try.prog.elem 24)).run Try.prog W = .ok 1 W := by
    obtain ⟨i, hi, _, h1, _⟩ := info_parts (show (Try.prog.info? 5).map (fun i => (i.zero, i.size, i.bytes)) = some (some (.int .u8 0), 1, 1) by kernel_rfl)
    rw [show Try.prog.elem 24 = 5 by kernel_rfl]
    simp [sizeOf, typeInfo, hi, h1]
  rw [run_sliceAt_slice (P := Try.prog) (w := W) _ _ _ _ _ (by kernel_rfl), run_slice_l (P := Try.prog) (w := W) 24 A n c (by kernel_rfl) .i64 (k : Int) (by omega) (by omega), hs]
  simp [cutA, sliced, Result.andThen]
theorem Reads.from_ {w : World} {B n c k : Nat} {A : Option Addr} {l : List UInt8} (h : Bytes w B A n l) (hk : k ≤ n) (hc : n ≤ c) : Bytes w B (cutA A c k) (n - k) (l.drop k) := by
  have h2 := Reads.bcut h (k := k) (m := n) (cap := c) hk (Nat.le_refl _) hc
  rw [List.take_of_length_le (by rw [List.length_drop, h.blen]; exact Nat.le_refl _)] at h2
  exact h2
theorem slc_to (A : Option Addr) (n c k : Nat) (hk : k ≤ c) (W : World) : (Instr.sliceAt 24 (.slice A n c) none (some (.int .i64 (k : Int))) none).run Try.prog W = .ok (.slice A k c) W := by
  have hs : (sizeOf (Try.prog.elem 24)).run Try.prog W = .ok 1 W := by
    obtain ⟨i, hi, _, h1, _⟩ := info_parts (show (Try.prog.info? 5).map (fun i => (i.zero, i.size, i.bytes)) = some (some (.int .u8 0), 1, 1) by kernel_rfl)
    rw [show Try.prog.elem 24 = 5 by kernel_rfl]
    simp [sizeOf, typeInfo, hi, h1]
  rw [run_sliceAt_slice (P := Try.prog) (w := W) _ _ _ _ _ (by kernel_rfl), run_slice_h (P := Try.prog) (w := W) 24 A n c (by kernel_rfl) .i64 (k : Int) (by omega) (by omega), hs]
  have hz : ∀ a : Addr, a.add 0 = a := fun a => by unfold Addr.add; simp
  cases A <;> simp [sliced, Result.andThen, hz]
theorem nextR_eq {lk : Nat} {b bd : List UInt8} {k e at_ e2 : Nat} {ns : List Nat} (hu : unfG b = (bd, k, e)) (hn : numsG bd 7 0 [] = (ns, at_, e2)) :
    nextR lk b = if e ≠ 0 then none else if e2 ≠ 0 then none else if okB (rdOf ns) = false then none else if bd.drop at_ ≠ be8 (tagN lk (bd.take at_)) then none else some (rdOf ns, k, tagN lk (bd.take at_)) := by
  unfold nextR
  rw [hu]
  dsimp only
  rw [hn]
def NxtR (x : Option (Rd × Nat × Nat)) (w : World) (e : Ending) (w' : World) : Prop := Below w.heap.size w w' ∧ ((x = none ∧ e = .returned (.tuple #[.agg #[.int .i64 0, .int .i64 0, .int .i64 0, .int .i64 0, .int .i64 0, .int .i64 0, .int .i64 0], .int .i64 0, .int .u64 0, .bool false])) ∨ ∃ (r : Rd) (n lk : Nat), x = some (r, n, lk) ∧ e = .returned (.tuple #[.agg #[.int .i64 r.gate, .int .i64 r.seq, .int .i64 r.ser, .int .i64 r.cnt, .int .i64 r.prod, .int .i64 r.lift, .int .i64 r.att], .int .i64 (n : Int), .int .u64 (lk : Int), .bool true]))

set_option maxRecDepth 100000 in
set_option maxHeartbeats 4000000 in
theorem rnext_any (A : Option Addr) (n c : Nat) (b : List UInt8) (lk : Nat) (w : World) (hr : Bytes w w.heap.size A n b) (hn : n ≤ 1000000) (hc : n ≤ c) (hc2 : c ≤ maxLen) (hlk : lk < 18446744073709551616) :
    Calls Try.prog 42 #[.int .u64 (lk : Int), .slice A n c] w (NxtR (nextR lk b) w) := by
  obtain ⟨bd, k, e, hu⟩ : ∃ bd k e, unfG b = (bd, k, e) := ⟨_, _, _, rfl⟩
  obtain ⟨ns, at_, e2, hns⟩ : ∃ ns a e, numsG bd 7 0 [] = (ns, a, e) := ⟨_, _, _, rfl⟩
  have HX := Lib.hid (nextR_eq (lk := lk) hu hns)
  have HForm : Hid (e = 0 → bd.length ≤ 65536) := fun h => by subst h; exact (unfG_form hu).2.2.1
  have HForm2 : Hid (e2 = 0 → at_ ≤ bd.length) := fun h => by
    subst h
    obtain ⟨_, _, _, _, h2, _⟩ := numsG_form bd 7 0 [] ns at_ (Nat.zero_le _) hns
    exact h2
  generalize nextR lk b = res at *
  have HU := Lib.hid hu
  have HNs := Lib.hid hns
  have HR := Lib.hid hr
  clear hu hns hr
  go_enter Try.func42, Try.ntmps42
  go_wp2_with fail
  have HBw0 := (Blk.new w 30 #[.int .i64 0, .int .i64 0, .int .i64 0, .int .i64 0, .int .i64 0, .int .i64 0, .int .i64 0])
  have HLw0 := (below_new w (.cells #[.int .i64 0, .int .i64 0, .int .i64 0, .int .i64 0, .int .i64 0, .int .i64 0, .int .i64 0] 30))
  have hsw0 : (w.alloc (.cells #[.int .i64 0, .int .i64 0, .int .i64 0, .int .i64 0, .int .i64 0, .int .i64 0, .int .i64 0] 30)).heap.size = w.heap.size + 1 := by simp
  generalize w.alloc (.cells #[.int .i64 0, .int .i64 0, .int .i64 0, .int .i64 0, .int .i64 0, .int .i64 0, .int .i64 0] 30) = w0 at HBw0 HLw0 hsw0 ⊢
  replace HBw0 := Lib.hid HBw0
  replace HLw0 := Lib.hid HLw0
  have hlw0 : w.heap.size < w0.heap.size := by omega
  replace hsw0 := Lib.hid hsw0
  have HR0 := Lib.hid (HR.out.now HLw0.out)
  with_reducible refine (runf_any A n c b bd k e _ HR0.out (by omega) hc hc2 HU.out).mono ?_
  rintro e' w1 ⟨v1, rfl, hown1, hb1⟩
  have HB1 := Lib.hid (HLw0.out.trans (hb1.mono HLw0.out.size))
  have HZ1 := Lib.hid (HBw0.out.below hb1 hlw0)
  obtain ⟨A1, n1, c1, rfl, HN1, hc11, hc12, hr1⟩ := hown1.nam
  have HR1 := Lib.hid hr1
  clear hown1 hb1 hr1
  by_cases he : e = 0
  · subst he
    have hn1 : n1 ≤ 65536 := by rw [← HN1.out]; exact HForm.out rfl
    go_wp2_with fail
    with_reducible refine (rparse_any A1 n1 c1 bd ns at_ e2 _ HR1.out (by omega) hc11 hc12 HNs.out).mono ?_
    rintro e' w2 ⟨hb2, h⟩
    have HB2 := Lib.hid (HB1.out.trans (hb2.mono HB1.out.size))
    have HZ2 := Lib.hid (HZ1.out.below hb2 HZ1.out.lt)
    have HR2 := Lib.hid (HR1.out.now hb2)
    have hlz : w.heap.size < w2.heap.size := HZ2.out.lt
    clear hb2
    rcases h with ⟨he2, rfl⟩ | ⟨he2, rfl⟩
    · subst he2
      have hat : at_ ≤ n1 := by rw [← HN1.out]; exact HForm2.out rfl
      generalize rdOf ns = r at *
      obtain ⟨ok, hok⟩ : ∃ x, okB r = x := ⟨_, rfl⟩
      obtain ⟨T, hT⟩ : ∃ x, tagN lk (bd.take at_) = x := ⟨_, rfl⟩
      have HTlt : Hid (T < 18446744073709551616) := by show _ < _; rw [← hT]; exact tagN_lt _ _
      have HX2 : Hid (res = if ok = false then none else if bd.drop at_ ≠ be8 T then none else some (r, k, T)) := by
        show _ = _
        rw [HX.out, hok, hT]
        simp
      have HRi : Hid (∀ W, Calls Try.prog 26 #[.agg #[.int .i64 r.gate, .int .i64 r.seq, .int .i64 r.ser, .int .i64 r.cnt, .int .i64 r.prod, .int .i64 r.lift, .int .i64 r.att]] W fun e w' => e = .returned (.bool ok) ∧ Below W.heap.size W w') := fun W => by rw [← hok]; exact rRight_any r W
      have HTe := Lib.hid hT
      clear hok hT HX
      go_wp2_with (first
        | (refine wpList_store_blk rfl 30 (.tmp 11) (.tmp 27) rfl w2.heap.size #[.int .i64 r.gate, .int .i64 r.seq, .int .i64 r.ser, .int .i64 r.cnt, .int .i64 r.prod, .int .i64 r.lift, .int .i64 r.att] rfl rfl _ _ (Blk.new w2 30 #[.int .i64 0, .int .i64 0, .int .i64 0, .int .i64 0, .int .i64 0, .int .i64 0, .int .i64 0]) (by kernel_rfl) rfl (by simp [Value.oneCell']) ?_
           intro w3 hx3 hon3
           have HX3 := Lib.hid hx3
           have hb3 := hon3.below (below_new w2 (.cells #[.int .i64 0, .int .i64 0, .int .i64 0, .int .i64 0, .int .i64 0, .int .i64 0, .int .i64 0] 30)) (Nat.le_refl _)
           have hs3 : w2.heap.size < w3.heap.size := hx3.lt
           have HB3 := Lib.hid (HB2.out.trans (hb3.mono HB2.out.size))
           have HZ3 := Lib.hid (HZ2.out.below hb3 hlz)
           have HR3 := Lib.hid (HR2.out.now hb3)
           clear hx3 hon3 hb3)
        | (refine wpList_load_g 30 (.tmp 11) rfl rfl w2.heap.size rfl _ _ HX3.out _ Try.underlying30 rfl (by kernel_rfl) ?_))
      with_reducible refine (HRi.out _).mono ?_
      rintro e' w4 ⟨rfl, hb4⟩
      have HX4 := Lib.hid (HX3.out.below hb4 hs3)
      have HB4 := Lib.hid (HB3.out.trans (hb4.mono HB3.out.size))
      have HZ4 := Lib.hid (HZ3.out.below hb4 HZ3.out.lt)
      have HR4 := Lib.hid (HR3.out.now hb4)
      have hs4 : w2.heap.size < w4.heap.size := HX4.out.lt
      clear hb4
      cases ok with
      | false =>
        have HX5 : Hid (res = none) := by rw [HX2.out]; exact hide rfl
        go_wp2_with
          (refine wpList_store_blk rfl 30 (.tmp 4) (.tmp 37) rfl w.heap.size #[.int .i64 0, .int .i64 0, .int .i64 0, .int .i64 0, .int .i64 0, .int .i64 0, .int .i64 0] rfl rfl _ _ HZ4.out (by kernel_rfl) rfl (by decide +kernel) ?_
           intro w5 HBz5 hon5
           have HZ5 := Lib.hid HBz5
           have HB5 := Lib.hid (hon5.below HB4.out (Nat.le_refl _))
           clear HBz5 hon5)
        refine bodyPost_ret (v := .tuple #[.agg #[.int .i64 0, .int .i64 0, .int .i64 0, .int .i64 0, .int .i64 0, .int .i64 0, .int .i64 0], .int .i64 0, .int .u64 0, .bool false]) (res_ct3 rfl _ _ ⟨w.heap.size, 0, none⟩ _ _ _ _ rfl (load_blk HZ5.out Try.underlying30 rfl (by kernel_rfl)) rfl rfl rfl) rfl ?_
        exact ⟨HB5.out, .inl ⟨HX5.out, rfl⟩⟩
      | true =>
        have hst := slc_to A1 n1 c1 at_ (by omega)
        have HRt : Hid (Bytes w4 w4.heap.size A1 at_ (bd.take at_)) := hide (Reads.bfront HR4.out hat)
        go_wp2_with fail
        with_reducible refine (rchain_any (lk : Int) (by omega) (by omega) A1 at_ c1 _ (bd.take at_) _ HRt.out (by omega) (by omega)).mono ?_
        rintro e' w' ⟨rfl, rfl⟩
        rw [Int.toNat_natCast, HTe.out]
        clear hst
        go_wp2_with fail
        have hsl := slc_from A1 n1 c1 at_ hat
        have HRd : Hid (Bytes w4.drew w4.drew.heap.size A1 n1 bd) := hide HR4.out
        obtain ⟨sb, hsb⟩ : ∃ x, decide (bd.drop at_ = be8 T) = x := ⟨_, rfl⟩
        have HSb := Lib.hid hsb
        clear hsb
        refine wp_region_held_drew (S := fun _ => True) (by kernel_rfl) (trivial) (fun hHeld => ?_)
        refine held_run 0 (some 43) (.move (.tmp 8)) ?v8_1_2 (by rfl) (by kernel_rfl) (by kernel_rfl) (by kernel_rfl) (fun _ _ _ h => h) (fun o ho w hS => ?y8_1_2) (by assumption) ?r8_1_2
        case y8_1_2 => (try dsimp only at hS); unfold execOp; simp only [ho]; go_simp; try with_reducible rfl
        try simp only [Act.put, List.setIfInBounds_toArray, List.set_cons_zero, List.set_cons_succ]
        refine held_run 1 (some 44) (.move (.tmp 12)) ?v8_1_3 (by rfl) (by kernel_rfl) (by kernel_rfl) (by kernel_rfl) (fun _ _ _ h => h) (fun o ho w hS => ?y8_1_3) (by assumption) ?r8_1_3
        case y8_1_3 => (try dsimp only at hS); unfold execOp; simp only [ho]; go_simp; try with_reducible rfl
        try simp only [Act.put, List.setIfInBounds_toArray, List.set_cons_zero, List.set_cons_succ]
        refine held_run 2 (some 45) (.slice 24 (.tmp 43) (some (.tmp 44)) none none) ?v8_1_4 (by rfl) (by kernel_rfl) (by kernel_rfl) (by kernel_rfl) (fun _ _ _ h => h) (fun o ho w hS => ?y8_1_4) (by assumption) ?r8_1_4
        case y8_1_4 => (try dsimp only at hS); unfold execOp; simp only [ho]; go_simp; try with_reducible rfl
        try simp only [Act.put, List.setIfInBounds_toArray, List.set_cons_zero, List.set_cons_succ]
        refine held_run 3 (some 46) (.move (.tmp 14)) ?v8_1_5 (by rfl) (by kernel_rfl) (by kernel_rfl) (by kernel_rfl) (fun _ _ _ h => h) (fun o ho w hS => ?y8_1_5) (by assumption) ?r8_1_5
        case y8_1_5 => (try dsimp only at hS); unfold execOp; simp only [ho]; go_simp; try with_reducible rfl
        try simp only [Act.put, List.setIfInBounds_toArray, List.set_cons_zero, List.set_cons_succ]
        refine held_call 4 (some 47) 39 [(.tmp 46)] #[37] #[.int .u64 (T : Int)] (by rfl) (by rfl) (by kernel_rfl) Try.func39 (by rfl) (by rfl) ?_
        refine (rtail_any T HTlt.out _).mono ?_
        rintro e w5 ⟨v5, rfl, hown5, hb5⟩
        have hbb5 : Below w4.heap.size w4 w5 := (Below.refl w4.heap.size w4).drew.trans hb5
        have HB5 := Lib.hid (HB4.out.trans (hbb5.mono HB4.out.size))
        have HX5 := Lib.hid (HX4.out.below hbb5 hs4)
        have HZ5 := Lib.hid (HZ4.out.below hbb5 HZ4.out.lt)
        have HR5 := Lib.hid (HR4.out.now hbb5)
        obtain ⟨A5, n5, c5, rfl, HN5, _, _, hr5⟩ := hown5.nam
        have HRt5 := Lib.hid hr5
        clear hown5 hb5 hbb5 hr5
        refine ⟨_, rfl, trivial, ?_⟩
        try simp only [Act.put, List.setIfInBounds_toArray, List.set_cons_zero, List.set_cons_succ]
        refine held_call 5 (some 48) 54 [(.tmp 45), (.tmp 47)] #[24, 24] #[.slice (cutA A1 c1 at_) (n1 - at_) (c1 - at_), .slice A5 n5 c5] (by rfl) (by rfl) (by kernel_rfl) Try.func54 (by rfl) (by rfl) ?_
        refine (sameb_any sb _ _ _ _ _ _ _ _ _ _ _ (Reads.from_ HR5.out hat hc11) HRt5.out HSb.out).mono ?_
        rintro e w' ⟨rfl, rfl⟩
        refine ⟨_, rfl, trivial, ?_⟩
        try simp only [Act.put, List.setIfInBounds_toArray, List.set_cons_zero, List.set_cons_succ]
        refine held_run 6 (some 49) (.unOp .not 4 (.tmp 48)) ?v8_1_8 (by rfl) (by kernel_rfl) (by kernel_rfl) (by kernel_rfl) (fun _ _ _ h => h) (fun o ho w hS => ?y8_1_8) (by assumption) ?r8_1_8
        case y8_1_8 => (try dsimp only at hS); unfold execOp; simp only [ho]; go_simp; try with_reducible rfl
        try simp only [Act.put, List.setIfInBounds_toArray, List.set_cons_zero, List.set_cons_succ]
        refine wpAnyH_done (by kernel_rfl) ?_ _
        clear hsl
        cases sb with
        | false =>
          have HX6 : Hid (res = none) := by
            have h := HSb.out
            simp only [decide_eq_false_iff_not] at h
            rw [HX2.out, if_neg (by simp), if_pos h]
            exact hide rfl
          go_wp2_with
            (refine wpList_store_blk rfl 30 (.tmp 4) (.tmp 50) rfl w.heap.size #[.int .i64 0, .int .i64 0, .int .i64 0, .int .i64 0, .int .i64 0, .int .i64 0, .int .i64 0] rfl rfl _ _ HZ5.out (by kernel_rfl) rfl (by decide +kernel) ?_
             intro w6 HBz6 hon6
             have HZ6 := Lib.hid HBz6
             have HB6 := Lib.hid (hon6.below HB5.out (Nat.le_refl _))
             clear HBz6 hon6)
          refine bodyPost_ret (v := .tuple #[.agg #[.int .i64 0, .int .i64 0, .int .i64 0, .int .i64 0, .int .i64 0, .int .i64 0, .int .i64 0], .int .i64 0, .int .u64 0, .bool false]) (res_ct3 rfl _ _ ⟨w.heap.size, 0, none⟩ _ _ _ _ rfl (load_blk HZ6.out Try.underlying30 rfl (by kernel_rfl)) rfl rfl rfl) rfl ?_
          exact ⟨HB6.out, .inl ⟨HX6.out, rfl⟩⟩
        | true =>
          have HX6 : Hid (res = some (r, k, T)) := by
            have h := HSb.out
            simp only [decide_eq_true_eq] at h
            rw [HX2.out, if_neg (by simp), if_neg (by simpa using h)]
            exact hide rfl
          go_wp2_with (first
            | (refine wpList_load_g 30 (.tmp 11) rfl rfl w2.heap.size rfl _ _ HX5.out _ Try.underlying30 rfl (by kernel_rfl) ?_)
            | (refine wpList_store_blk rfl 30 (.tmp 4) (.tmp 51) rfl w.heap.size #[.int .i64 r.gate, .int .i64 r.seq, .int .i64 r.ser, .int .i64 r.cnt, .int .i64 r.prod, .int .i64 r.lift, .int .i64 r.att] rfl rfl _ _ HZ5.out (by kernel_rfl) rfl (by simp [Value.oneCell']) ?_
               intro w6 HBz6 hon6
               have HZ6 := Lib.hid HBz6
               have HB6 := Lib.hid (hon6.below HB5.out (Nat.le_refl _))
               clear HBz6 hon6))
          refine bodyPost_ret (v := .tuple #[.agg #[.int .i64 r.gate, .int .i64 r.seq, .int .i64 r.ser, .int .i64 r.cnt, .int .i64 r.prod, .int .i64 r.lift, .int .i64 r.att], .int .i64 (k : Int), .int .u64 (T : Int), .bool true]) (res_ct3 rfl _ _ ⟨w.heap.size, 0, none⟩ _ _ _ _ rfl (load_blk HZ6.out Try.underlying30 rfl (by kernel_rfl)) rfl rfl rfl) rfl ?_
          exact ⟨HB6.out, .inr ⟨r, k, T, HX6.out, rfl⟩⟩
    · have HX5 : Hid (res = none) := by rw [HX.out, if_neg (by simp), if_pos he2]; exact hide rfl
      go_wp2_with (first
        | (refine wpList_store_blk rfl 30 (.tmp 11) (.tmp 27) rfl w2.heap.size #[.int .i64 0, .int .i64 0, .int .i64 0, .int .i64 0, .int .i64 0, .int .i64 0, .int .i64 0] rfl rfl _ _ (Blk.new w2 30 #[.int .i64 0, .int .i64 0, .int .i64 0, .int .i64 0, .int .i64 0, .int .i64 0, .int .i64 0]) (by kernel_rfl) rfl (by decide +kernel) ?_
           intro w3 hx3 hon3
           have hb3 := hon3.below (below_new w2 (.cells #[.int .i64 0, .int .i64 0, .int .i64 0, .int .i64 0, .int .i64 0, .int .i64 0, .int .i64 0] 30)) (Nat.le_refl _)
           have HB3 := Lib.hid (HB2.out.trans (hb3.mono HB2.out.size))
           have HZ3 := Lib.hid (HZ2.out.below hb3 hlz)
           clear hx3 hon3 hb3)
        | (refine wpList_store_blk rfl 30 (.tmp 4) (.tmp 37) rfl w.heap.size #[.int .i64 0, .int .i64 0, .int .i64 0, .int .i64 0, .int .i64 0, .int .i64 0, .int .i64 0] rfl rfl _ _ HZ3.out (by kernel_rfl) rfl (by decide +kernel) ?_
           intro w5 HBz5 hon5
           have HZ5 := Lib.hid HBz5
           have HB5 := Lib.hid (hon5.below HB3.out (Nat.le_refl _))
           clear HBz5 hon5))
      refine bodyPost_ret (v := .tuple #[.agg #[.int .i64 0, .int .i64 0, .int .i64 0, .int .i64 0, .int .i64 0, .int .i64 0, .int .i64 0], .int .i64 0, .int .u64 0, .bool false]) (res_ct3 rfl _ _ ⟨w.heap.size, 0, none⟩ _ _ _ _ rfl (load_blk HZ5.out Try.underlying30 rfl (by kernel_rfl)) rfl rfl rfl) rfl ?_
      exact ⟨HB5.out, .inl ⟨HX5.out, rfl⟩⟩
  · have hb : ((e : Int) != 0) = true := by rw [bne_iff_ne]; omega
    have HX5 : Hid (res = none) := by rw [HX.out, if_pos he]; exact hide rfl
    go_wp2_with
      (refine wpList_store_blk rfl 30 (.tmp 4) (.tmp 23) rfl w.heap.size #[.int .i64 0, .int .i64 0, .int .i64 0, .int .i64 0, .int .i64 0, .int .i64 0, .int .i64 0] rfl rfl _ _ HZ1.out (by kernel_rfl) rfl (by decide +kernel) ?_
       intro w5 HBz5 hon5
       have HZ5 := Lib.hid HBz5
       have HB5 := Lib.hid (hon5.below HB1.out (Nat.le_refl _))
       clear HBz5 hon5)
    refine bodyPost_ret (v := .tuple #[.agg #[.int .i64 0, .int .i64 0, .int .i64 0, .int .i64 0, .int .i64 0, .int .i64 0, .int .i64 0], .int .i64 0, .int .u64 0, .bool false]) (res_ct3 rfl _ _ ⟨w.heap.size, 0, none⟩ _ _ _ _ rfl (load_blk HZ5.out Try.underlying30 rfl (by kernel_rfl)) rfl rfl rfl) rfl ?_
    exact ⟨HB5.out, .inl ⟨HX5.out, rfl⟩⟩
end Go.Proofs.Ytdmkkpnjakdnnaa
