/-
  Chapter 29: read, Read, Whole and Last of the reference, walked.
-/
import Derived.Test.YtdmkkpnjakdnnaaJouF
namespace Go.Proofs.Ytdmkkpnjakdnnaa
open Go.RowKit

theorem ei_rd : EInfo Try.prog 22 30 7 56 := EInfo.mk' Try.underlying22 (z := .agg #[.int .i64 0, .int .i64 0, .int .i64 0, .int .i64 0, .int .i64 0, .int .i64 0, .int .i64 0]) (by kernel_rfl) rfl (by omega)
/-- a slice of rides of the call's own -/
def OwnRd (w : World) (base : Nat) (v : Value) (l : List Rd) : Prop := w.ownsRow base 30 7 v l.length (l.map Rd.cells).flatten
theorem OwnRd.nil (w : World) (base : Nat) : OwnRd w base (.slice none 0 0) [] := World.ownsRow_nil _ _ _ _
theorem OwnRd.strV {w : World} {base : Nat} {v : Value} {l : List Rd} (h : OwnRd w base v l) : StrV Rd.cells 7 w w.heap.size v l := by
  obtain ⟨A, c, rfl, h1, h2, h3⟩ := own_open h
  exact ⟨A, c, rfl, h1, h2, h3⟩
theorem OwnRd.snoc {w : World} {base n : Nat} {v : Value} {l : List Rd} {r : Rd} {xs : List Value} (h : w.ownsRow base 30 7 v n xs) (hn : n = l.length + 1) (hx : xs = (l.map Rd.cells).flatten ++ Rd.cells r) : OwnRd w base v (l ++ [r]) := by
  subst hn hx
  unfold OwnRd
  simpa using h
theorem OwnRd.mono {w : World} {base base' : Nat} {v : Value} {l : List Rd} (h : OwnRd w base v l) (hB : base' ≤ base) : OwnRd w base' v l := by
  refine ⟨h.1, ?_⟩
  rcases h.2 with h0 | ⟨g, cap, cur, h1, h2, h3⟩
  · exact .inl h0
  · exact .inr ⟨g, cap, cur, h1, by omega, h3⟩

/-- what is left to read at an index behind a link -/
structure ScanI (b : List UInt8) (res : List Rd × Nat × Nat) (out : List Rd) (at_ lk : Nat) : Prop where
  eq : res = (out ++ (scanR lk (b.drop at_)).1, at_ + (scanR lk (b.drop at_)).2.1, (scanR lk (b.drop at_)).2.2)
  le : at_ ≤ b.length
  lt : lk < 18446744073709551616
  few : 20 * out.length ≤ at_
theorem ScanI.start (b : List UInt8) : ScanI b (scanR 0 b) [] 0 0 := ⟨by simp, Nat.zero_le _, by omega, by simp⟩
theorem ScanI.done {b : List UInt8} {res : List Rd × Nat × Nat} {out : List Rd} {at_ lk : Nat} (h : ScanI b res out at_ lk) (hn : nextR lk (b.drop at_) = none) : res = (out, at_, lk) := by
  rw [h.eq, scanR_none hn]
  simp
theorem ScanI.full {b : List UInt8} {res : List Rd × Nat × Nat} {out : List Rd} {lk : Nat} (h : ScanI b res out b.length lk) : res = (out, b.length, lk) := by
  refine h.done ?_
  rw [List.drop_of_length_le (Nat.le_refl _)]
  exact nextR_nil lk
theorem ScanI.step {b : List UInt8} {res : List Rd × Nat × Nat} {out : List Rd} {at_ lk : Nat} (h : ScanI b res out at_ lk) {r : Rd} {n lk' : Nat} (hn : nextR lk (b.drop at_) = some (r, n, lk')) : ScanI b res (out ++ [r]) (at_ + n) lk' ∧ 20 ≤ n ∧ at_ + n ≤ b.length := by
  obtain ⟨hr, _, h1, h2, h3⟩ := nextR_form hn
  have h20 := (frmR_le lk hr).1
  have hl := h.le
  rw [List.length_drop] at h1
  refine ⟨⟨?_, by omega, ?_, ?_⟩, by omega, by omega⟩
  · rw [h.eq, scanR_some hn, List.drop_drop]
    simp [Nat.add_assoc]
  · rw [h3]; exact lnkR_lt _ _
  · have := h.few
    rw [List.length_append]
    simp only [List.length_cons, List.length_nil]
    omega

set_option maxRecDepth 100000 in
set_option maxHeartbeats 4000000 in
theorem rread_any (A : Option Addr) (n c : Nat) (b : List UInt8) (l : List Rd) (s lk : Nat) (w : World) (hr : Bytes w w.heap.size A n b) (hn : n ≤ 1000000) (hc : n ≤ c) (hc2 : c ≤ maxLen) (hT : scanR 0 b = (l, s, lk)) :
    Calls Try.prog 30 #[.slice A n c] w fun e w' => ∃ v, e = .returned (.tuple #[v, .int .i64 (s : Int), .int .u64 (lk : Int)]) ∧ OwnRd w' w.heap.size v l ∧ Below w.heap.size w w' := by
  have HR := Lib.hid hr
  have HL := Lib.hid hr.blen
  have H0 := Lib.hid (ScanI.start b)
  rw [hT] at H0
  clear hr hT
  go_enter Try.func30, Try.ntmps30
  go_wp2_with fail
  go_loopw [5, 6, 7] (fun v p q wr => ∃ (at_ lk1 : Nat) (out : List Rd), p = .int .i64 (at_ : Int) ∧ q = .int .u64 (lk1 : Int) ∧ ScanI b (l, s, lk) out at_ lk1 ∧ OwnRd wr w.heap.size v out ∧ Below w.heap.size w wr) (fun _ p _ _ => n - (intOf p).toNat)
  case atStart => exact ⟨0, 0, [], rfl, rfl, H0.out, OwnRd.nil _ _, Below.refl _ _⟩
  case round =>
    obtain ⟨at_, lk1, out, rfl, rfl, hI, hown, hbr⟩ := hrel
    obtain ⟨wo, rfl⟩ : ∃ wo : World, wo = wr := ⟨_, rfl⟩
    have HI := Lib.hid hI
    have HO := Lib.hid hown
    have HB := Lib.hid hbr
    have hat : at_ ≤ n := by rw [← HL.out]; exact hI.le
    have hlk := hI.lt
    have hfew := hI.few
    have hsz := hbr.size
    clear hI hbr
    obtain ⟨oA, oc, rfl, ho1, ho2, _⟩ := own_open hown
    clear hown
    by_cases hlt : at_ < n
    · have hsl := slc_from A n c at_ hat
      have HRd := Lib.hid (Reads.from_ (HR.out.now HB.out) hat hc)
      go_wp2_with fail
      with_reducible refine (rnext_any (cutA A c at_) (n - at_) (c - at_) (b.drop at_) lk1 _ HRd.out (by omega) (by omega) (by omega) hlk).mono ?_
      rintro e w1 ⟨hb1, h⟩
      have HB1 := Lib.hid (HB.out.trans (hb1.mono HB.out.size))
      have HO1 := Lib.hid (own_below HO.out hb1 (Nat.le_refl _))
      have hs1 : w.heap.size ≤ w1.heap.size := HB1.out.size
      clear hb1 hsl
      rcases h with ⟨hx, rfl⟩ | ⟨r, k, lk2, hx, rfl⟩
      · have HD := Lib.hid (HI.out.done hx)
        have HOd : Hid (OwnRd w1 w.heap.size (.slice oA out.length oc) out) := hide HO1.out
        clear hx
        go_wp2_with
          (refine wpList_store_blk rfl 30 (.tmp 8) (.tmp 22) rfl w1.heap.size #[.int .i64 0, .int .i64 0, .int .i64 0, .int .i64 0, .int .i64 0, .int .i64 0, .int .i64 0] rfl rfl _ _ (Blk.new w1 30 #[.int .i64 0, .int .i64 0, .int .i64 0, .int .i64 0, .int .i64 0, .int .i64 0, .int .i64 0]) (by kernel_rfl) rfl (by decide +kernel) ?_
           intro w2 hx2 hon2
           have hb2 := hon2.below (below_new w1 (.cells #[.int .i64 0, .int .i64 0, .int .i64 0, .int .i64 0, .int .i64 0, .int .i64 0, .int .i64 0] 30)) (Nat.le_refl _)
           have HB2 := Lib.hid (HB1.out.trans (hb2.mono HB1.out.size))
           have HO2 := Lib.hid (own_below HOd.out hb2 (Nat.le_refl _))
           clear hx2 hon2 hb2)
        go_ret3
        have h := HD.out
        simp only [Prod.mk.injEq] at h
        obtain ⟨rfl, rfl, rfl⟩ := h
        exact ⟨_, rfl, HO2.out, HB2.out⟩
      · obtain ⟨hI2, h20, hle⟩ := HI.out.step hx
        have HI2 := Lib.hid hI2
        have hkn : at_ + k ≤ n := by rw [← HL.out]; exact hle
        clear hx hI2 hle
        go_wp2_with (first
          | (refine wpList_store_blk rfl 30 (.tmp 8) (.tmp 22) rfl w1.heap.size #[.int .i64 r.gate, .int .i64 r.seq, .int .i64 r.ser, .int .i64 r.cnt, .int .i64 r.prod, .int .i64 r.lift, .int .i64 r.att] rfl rfl _ _ (Blk.new w1 30 #[.int .i64 0, .int .i64 0, .int .i64 0, .int .i64 0, .int .i64 0, .int .i64 0, .int .i64 0]) (by kernel_rfl) rfl (by simp [Value.oneCell']) ?_
             intro w2 hx2 hon2
             have HX2 := Lib.hid hx2
             have hb2 := hon2.below (below_new w1 (.cells #[.int .i64 0, .int .i64 0, .int .i64 0, .int .i64 0, .int .i64 0, .int .i64 0, .int .i64 0] 30)) (Nat.le_refl _)
             have HB2 := Lib.hid (HB1.out.trans (hb2.mono HB1.out.size))
             have HO2 := Lib.hid (own_below HO1.out hb2 (Nat.le_refl _))
             have hs2 : w.heap.size ≤ w2.heap.size := HB2.out.size
             clear hx2 hon2 hb2)
          | (refine wpList_load_g 30 (.tmp 8) rfl rfl w1.heap.size rfl _ _ HX2.out _ Try.underlying30 rfl (by kernel_rfl) ?_)
          | (at_builtin
             refine wpList_app_lit ei_rd rfl (.tmp 28) (.tmp 30) rfl w.heap.size (.slice oA out.length oc) out.length (out.map Rd.cells).flatten rfl HO2.out 1 rfl rfl (by simp [Value.oneCell']) (by simp only [maxLen]; omega) (by omega) (by omega) ?_
             intro v4 w4 hown4 hb4 hg4 hat4
             have HO4 : Hid (OwnRd w4 w.heap.size v4 (out ++ [r])) := hide (OwnRd.snoc hown4 rfl rfl)
             have HB4 := Lib.hid (HB2.out.trans hb4)
             clear hown4 hb4 hg4 hat4))
        go_roundw
        case rel => exact ⟨at_ + k, lk2, out ++ [r], by go_num, rfl, HI2.out, HO4.out, HB4.out⟩
        case measure => simp [intOf]; omega
    · obtain rfl : at_ = n := by omega
      have HD : Hid ((l, s, lk) = (out, at_, lk1)) := by
        have h := HI.out
        rw [← HL.out] at h ⊢
        exact hide h.full
      go_wp2_with fail
      go_ret3
      have h := HD.out
      simp only [Prod.mk.injEq] at h
      obtain ⟨rfl, rfl, rfl⟩ := h
      exact ⟨_, rfl, HO.out, HB.out⟩
theorem whole_eq {s n : Nat} {q : Bool} (h : decide (s = n) = q) : ((s : Int) == (n : Int)) = q := by
  rw [← h]
  by_cases h : s = n
  · subst h; simp
  · rw [decide_eq_false h]; exact beq_eq_false_iff_ne.2 (by omega)
set_option maxRecDepth 100000 in
theorem rRead_any (A : Option Addr) (n c : Nat) (b : List UInt8) (l : List Rd) (s lk : Nat) (w : World) (hr : Bytes w w.heap.size A n b) (hn : n ≤ 1000000) (hc : n ≤ c) (hc2 : c ≤ maxLen) (hT : scanR 0 b = (l, s, lk)) :
    Calls Try.prog 16 #[.slice A n c] w fun e w' => ∃ v, e = .returned (.tuple #[v, .int .i64 (s : Int)]) ∧ OwnRd w' w.heap.size v l ∧ Below w.heap.size w w' := by
  go_enter Try.func16, Try.ntmps16
  go_wp2_with fail
  with_reducible refine (rread_any A n c b l s lk _ hr hn hc hc2 hT).mono ?_
  rintro e w1 ⟨v1, rfl, hown1, hb1⟩
  go_wp2_with fail
  go_ret2
  exact ⟨_, rfl, hown1, hb1⟩
set_option maxRecDepth 100000 in
theorem rWhole_any (q : Bool) (A : Option Addr) (n c : Nat) (b : List UInt8) (l : List Rd) (s lk : Nat) (w : World) (hr : Bytes w w.heap.size A n b) (hn : n ≤ 1000000) (hc : n ≤ c) (hc2 : c ≤ maxLen) (hT : scanR 0 b = (l, s, lk)) (hq : decide (s = n) = q) :
    Calls Try.prog 19 #[.slice A n c] w fun e w' => e = .returned (.bool q) ∧ Below w.heap.size w w' := by
  have hq2 := whole_eq hq
  clear hq
  go_enter Try.func19, Try.ntmps19
  go_wp2_with fail
  with_reducible refine (rread_any A n c b l s lk _ hr hn hc hc2 hT).mono ?_
  rintro e w1 ⟨v1, rfl, hown1, hb1⟩
  have HB1 := Lib.hid hb1
  clear hown1 hb1
  go_wp2_with fail
  go_ret
  exact ⟨rfl, HB1.out⟩
set_option maxRecDepth 100000 in
theorem rLast_any (A : Option Addr) (n c : Nat) (b : List UInt8) (l : List Rd) (s lk : Nat) (w : World) (hr : Bytes w w.heap.size A n b) (hn : n ≤ 1000000) (hc : n ≤ c) (hc2 : c ≤ maxLen) (hT : scanR 0 b = (l, s, lk)) :
    Calls Try.prog 21 #[.slice A n c] w fun e w' => e = .returned (.int .u64 (lk : Int)) ∧ Below w.heap.size w w' := by
  go_enter Try.func21, Try.ntmps21
  go_wp2_with fail
  with_reducible refine (rread_any A n c b l s lk _ hr hn hc hc2 hT).mono ?_
  rintro e w1 ⟨v1, rfl, hown1, hb1⟩
  go_wp2_with fail
  go_ret
  exact ⟨rfl, hb1⟩
end Go.Proofs.Ytdmkkpnjakdnnaa
