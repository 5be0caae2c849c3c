/-
  Chapter 29: parse and next of the reference, walked.
  Chapter 29: next of the reference, walked.
  Chapter 29: read, Read, Whole and Last of the reference, walked.
  Chapter 29: record of the program, walked.
-/
import Derived.Test.YtedeggjefnpjgaaDvD
import Derived.Test.YtedeggjefnpjgaaResT
import Derived.Test.YtedeggjefnpjgaaRegC
import Derived.Test.YtedeggjefnpjgaaRegA
import Derived.Deep.Light
namespace Go.Proofs.Ytedeggjefnpjgaa

section
open Go.RowKit

/-- the cells of an array of seven ints of which the first ones are set -/
def fL (f : List Int) : List Value := f.map (Value.int .i64) ++ List.replicate (7 - f.length) (Value.int .i64 0)
theorem fL_at {f : List Int} (h : f.length < 7) : (fL f).toArray[f.length]? = some (Value.int .i64 0) := by
  have h2 : 7 - f.length = (7 - f.length - 1) + 1 := by omega
  simp only [fL, List.getElem?_toArray]
  rw [h2, List.replicate_succ, List.getElem?_append_right (by simp)]
  simp
theorem fL_set {f : List Int} (h : f.length < 7) (z : Int) : (fL f).toArray.setIfInBounds f.length (.int .i64 z) = (fL (f ++ [z])).toArray := by
  have h2 : 7 - f.length = (7 - (f.length + 1)) + 1 := by omega
  simp only [fL, List.map_append, List.map_cons, List.map_nil, List.length_append, List.length_cons, List.length_nil, List.setIfInBounds_toArray]
  congr 1
  rw [h2, List.replicate_succ, List.set_append_right _ _ (by simp)]
  simp
theorem toI_snoc (l : List Nat) (x : Nat) : toI (l ++ [x]) = toI l ++ [(x : Int)] := by simp [toI]
theorem toI_len (l : List Nat) : (toI l).length = l.length := by simp [toI]

def ParR (ns : List Nat) (k e : Nat) (w : World) (e' : Ending) (w' : World) : Prop := Below w.heap.size w w' ∧ ((e = 0 ∧ e' = .returned (.tuple #[.agg #[.int .i64 (rdOf ns).gate, .int .i64 (rdOf ns).seq, .int .i64 (rdOf ns).ser, .int .i64 (rdOf ns).cnt, .int .i64 (rdOf ns).prod, .int .i64 (rdOf ns).lift, .int .i64 (rdOf ns).att], .int .i64 (k : Int), .bool true])) ∨ (e ≠ 0 ∧ e' = .returned (.tuple #[.agg #[.int .i64 0, .int .i64 0, .int .i64 0, .int .i64 0, .int .i64 0, .int .i64 0, .int .i64 0], .int .i64 0, .bool false])))
end

section
open Go.RowKit

/-- the address of b[k:] -/
def cutA (A : Option Addr) (c k : Nat) : Option Addr := if c = k then A else A.map (·.add k)
theorem slc_from (A : Option Addr) (n c k : Nat) (hk : k ≤ n) (W : World) : (Instr.sliceAt 56 (.slice A n c) (some (.int .i64 (k : Int))) none none).run Try.prog W = .ok (.slice (cutA A c k) (n - k) (c - k)) W := by
  have hs : (sizeOf (Try.prog.elem 56)).run Try.prog W = .ok 1 W := by
    obtain ⟨i, hi, _, h1, _⟩ := info_parts (show (Try.prog.info? 5).map (fun i => (i.zero, i.size, i.bytes)) = some (some (.int .u8 0), 1, 1) by kernel_rfl)
    rw [show Try.prog.elem 56 = 5 by kernel_rfl]
    simp [sizeOf, typeInfo, hi, h1]
  rw [run_sliceAt_slice (P := Try.prog) (w := W) _ _ _ _ _ (by kernel_rfl), run_slice_l (P := Try.prog) (w := W) 56 A n c (by kernel_rfl) .i64 (k : Int) (by omega) (by omega), hs]
  simp [cutA, sliced, Result.andThen]
theorem Reads.from_ {w : World} {B n c k : Nat} {A : Option Addr} {l : List UInt8} (h : Bytes w B A n l) (hk : k ≤ n) (hc : n ≤ c) : Bytes w B (cutA A c k) (n - k) (l.drop k) := by
  have h2 := Reads.bcut h (k := k) (m := n) (cap := c) hk (Nat.le_refl _) hc
  rw [List.take_of_length_le (by rw [List.length_drop, h.blen]; exact Nat.le_refl _)] at h2
  exact h2
theorem slc_to (A : Option Addr) (n c k : Nat) (hk : k ≤ c) (W : World) : (Instr.sliceAt 56 (.slice A n c) none (some (.int .i64 (k : Int))) none).run Try.prog W = .ok (.slice A k c) W := by
  have hs : (sizeOf (Try.prog.elem 56)).run Try.prog W = .ok 1 W := by
    obtain ⟨i, hi, _, h1, _⟩ := info_parts (show (Try.prog.info? 5).map (fun i => (i.zero, i.size, i.bytes)) = some (some (.int .u8 0), 1, 1) by kernel_rfl)
    rw [show Try.prog.elem 56 = 5 by kernel_rfl]
    simp [sizeOf, typeInfo, hi, h1]
  rw [run_sliceAt_slice (P := Try.prog) (w := W) _ _ _ _ _ (by kernel_rfl), run_slice_h (P := Try.prog) (w := W) 56 A n c (by kernel_rfl) .i64 (k : Int) (by omega) (by omega), hs]
  have hz : ∀ a : Addr, a.add 0 = a := fun a => by unfold Addr.add; simp
  cases A <;> simp [sliced, Result.andThen, hz]
theorem nextR_eq {lk : Nat} {b bd : List UInt8} {k e at_ e2 : Nat} {ns : List Nat} (hu : unfG b = (bd, k, e)) (hn : numsG bd 7 0 [] = (ns, at_, e2)) :
    nextR lk b = if e ≠ 0 then none else if e2 ≠ 0 then none else if okB (rdOf ns) = false then none else if bd.drop at_ ≠ be8 (tagN lk (bd.take at_)) then none else some (rdOf ns, k, tagN lk (bd.take at_)) := by
  unfold nextR
  rw [hu]
  dsimp only
  rw [hn]
def NxtR (x : Option (Rd × Nat × Nat)) (w : World) (e : Ending) (w' : World) : Prop := Below w.heap.size w w' ∧ ((x = none ∧ e = .returned (.tuple #[.agg #[.int .i64 0, .int .i64 0, .int .i64 0, .int .i64 0, .int .i64 0, .int .i64 0, .int .i64 0], .int .i64 0, .int .u64 0, .bool false])) ∨ ∃ (r : Rd) (n lk : Nat), x = some (r, n, lk) ∧ e = .returned (.tuple #[.agg #[.int .i64 r.gate, .int .i64 r.seq, .int .i64 r.ser, .int .i64 r.cnt, .int .i64 r.prod, .int .i64 r.lift, .int .i64 r.att], .int .i64 (n : Int), .int .u64 (lk : Int), .bool true]))
end

section
open Go.RowKit

theorem ei_rd : EInfo Try.prog 28 55 7 56 := EInfo.mk' Try.underlying28 (z := .agg #[.int .i64 0, .int .i64 0, .int .i64 0, .int .i64 0, .int .i64 0, .int .i64 0, .int .i64 0]) (by kernel_rfl) rfl (by omega)
/-- a slice of rides of the call's own -/
def OwnRd (w : World) (base : Nat) (v : Value) (l : List Rd) : Prop := w.ownsRow base 55 7 v l.length (l.map Rd.cells).flatten
theorem OwnRd.nil (w : World) (base : Nat) : OwnRd w base (.slice none 0 0) [] := World.ownsRow_nil _ _ _ _
theorem OwnRd.strV {w : World} {base : Nat} {v : Value} {l : List Rd} (h : OwnRd w base v l) : StrV Rd.cells 7 w w.heap.size v l := by
  obtain ⟨A, c, rfl, h1, h2, h3⟩ := own_open h
  exact ⟨A, c, rfl, h1, h2, h3⟩
theorem OwnRd.snoc {w : World} {base n : Nat} {v : Value} {l : List Rd} {r : Rd} {xs : List Value} (h : w.ownsRow base 55 7 v n xs) (hn : n = l.length + 1) (hx : xs = (l.map Rd.cells).flatten ++ Rd.cells r) : OwnRd w base v (l ++ [r]) := by
  subst hn hx
  unfold OwnRd
  simpa using h
theorem OwnRd.mono {w : World} {base base' : Nat} {v : Value} {l : List Rd} (h : OwnRd w base v l) (hB : base' ≤ base) : OwnRd w base' v l := by
  refine ⟨h.1, ?_⟩
  rcases h.2 with h0 | ⟨g, cap, cur, h1, h2, h3⟩
  · exact .inl h0
  · exact .inr ⟨g, cap, cur, h1, by omega, h3⟩

/-- what is left to read at an index behind a link -/
structure ScanI (b : List UInt8) (res : List Rd × Nat × Nat) (out : List Rd) (at_ lk : Nat) : Prop where
  eq : res = (out ++ (scanR lk (b.drop at_)).1, at_ + (scanR lk (b.drop at_)).2.1, (scanR lk (b.drop at_)).2.2)
  le : at_ ≤ b.length
  lt : lk < 18446744073709551616
  few : 20 * out.length ≤ at_
theorem ScanI.start (b : List UInt8) : ScanI b (scanR 0 b) [] 0 0 := ⟨by simp, Nat.zero_le _, by omega, by simp⟩
theorem ScanI.done {b : List UInt8} {res : List Rd × Nat × Nat} {out : List Rd} {at_ lk : Nat} (h : ScanI b res out at_ lk) (hn : nextR lk (b.drop at_) = none) : res = (out, at_, lk) := by
  rw [h.eq, scanR_none hn]
  simp
theorem ScanI.full {b : List UInt8} {res : List Rd × Nat × Nat} {out : List Rd} {lk : Nat} (h : ScanI b res out b.length lk) : res = (out, b.length, lk) := by
  refine h.done ?_
  rw [List.drop_of_length_le (Nat.le_refl _)]
  exact nextR_nil lk
theorem ScanI.step {b : List UInt8} {res : List Rd × Nat × Nat} {out : List Rd} {at_ lk : Nat} (h : ScanI b res out at_ lk) {r : Rd} {n lk' : Nat} (hn : nextR lk (b.drop at_) = some (r, n, lk')) : ScanI b res (out ++ [r]) (at_ + n) lk' ∧ 20 ≤ n ∧ at_ + n ≤ b.length := by
  obtain ⟨hr, _, h1, h2, h3⟩ := nextR_form hn
  have h20 := (frmR_le lk hr).1
  have hl := h.le
  rw [List.length_drop] at h1
  refine ⟨⟨?_, by omega, ?_, ?_⟩, by omega, by omega⟩
  · rw [h.eq, scanR_some hn, List.drop_drop]
    simp [Nat.add_assoc]
  · rw [h3]; exact lnkR_lt _ _
  · have := h.few
    rw [List.length_append]
    simp only [List.length_cons, List.length_nil]
    omega

theorem whole_eq {s n : Nat} {q : Bool} (h : decide (s = n) = q) : ((s : Int) == (n : Int)) = q := by
  rw [← h]
  by_cases h : s = n
  · subst h; simp
  · rw [decide_eq_false h]; exact beq_eq_false_iff_ne.2 (by omega)
end

section
open Go.RowKit

theorem or8_form (S x : Nat) (hS : S < 72057594037927936) (hx : x < 256) : bits .or .u64 ((S : Int) * 256) (x : Int) = ((S * 256 + x : Nat) : Int) := by
  rw [show ((S : Int) * 256) = ((S * 256 : Nat) : Int) by omega, u64_or_nat _ _ (by omega) (by omega)]
  congr 1
  rw [Nat.mul_comm, show (256 : Nat) = 2 ^ 8 from rfl, ← Nat.two_pow_add_eq_or_of_lt (by omega)]
theorem deN_next (l : List UInt8) (k : Nat) (h : k < l.length) : deN (l.take (k + 1)) = deN (l.take k) * 256 + (l.getD k 0).toNat := by
  have e : l.getD k 0 = l[k] := by simp [List.getElem?_eq_getElem h]
  rw [List.take_succ_eq_append_getElem h, e, deN_snoc]
/-- a number that is too great -/
theorem okB_great {bd : List UInt8} {m at_ a : Nat} {out ns : List Nat} {X : Nat} (hat : at_ ≤ bd.length) (hm : out.length + 1 + m = 7) (hX : 20000000 < X) (h : numsG bd m at_ (out ++ [X]) = (ns, a, 0)) : okB (rdOf ns) = false := by
  obtain ⟨more, hns, hml, _⟩ := numsG_form bd m at_ (out ++ [X]) ns a hat h
  have hlen : ns.length = 7 := by rw [hns]; simp; omega
  cases hx : okB (rdOf ns) with
  | false => rfl
  | true =>
    have h1 := okB_iff.1 hx (X : Int) (by
      rw [rdOf_fs _ hlen, hns]
      unfold toI
      exact List.mem_map.2 ⟨X, by simp, rfl⟩)
    omega
theorem okB_all {out : List Nat} (hlen : out.length = 7) (h : ∀ x ∈ out, x ≤ 20000000) : okB (rdOf out) = true := by
  refine okB_iff.2 fun x hx => ?_
  rw [rdOf_fs _ hlen] at hx
  obtain ⟨y, hy, rfl⟩ := List.mem_map.1 hx
  have := h y hy
  omega
def RecR (x : Option (Rd × Nat × Nat)) (w : World) (e : Ending) (w' : World) : Prop := Below w.heap.size w w' ∧ ((x = none ∧ e = .panicked [{ v := .iface 97 (.agg #[]), recovered := false }]) ∨ ∃ (r : Rd) (n lk : Nat), x = some (r, n, lk) ∧ e = .returned (.tuple #[.agg #[.int .i64 r.gate, .int .i64 r.seq, .int .i64 r.ser, .int .i64 r.cnt, .int .i64 r.prod, .int .i64 r.lift, .int .i64 r.att], .int .u64 (lk : Int), .int .i64 (n : Int)]))

set_option maxRecDepth 100000 in
set_option maxHeartbeats 8000000 in
theorem record_any (A : Option Addr) (n c : Nat) (b : List UInt8) (lk : Nat) (w : World) (hr : Bytes w w.heap.size A n b) (hn : n ≤ 1000000) (hc : n ≤ c) (hc2 : c ≤ maxLen) (hlk : lk < 18446744073709551616) :
    Calls Try.prog 52 #[.slice A n c, .int .u64 (lk : Int)] w (RecR (nextR lk b) w) := by
  obtain ⟨bd, k, e, hu⟩ : ∃ bd k e, unfG b = (bd, k, e) := ⟨_, _, _, rfl⟩
  obtain ⟨ns, at9, e2, hns⟩ : ∃ ns a e, numsG bd 7 0 [] = (ns, a, e) := ⟨_, _, _, rfl⟩
  have HX := Lib.hid (nextR_eq (lk := lk) hu hns)
  have HForm : Hid (e = 0 → bd.length ≤ 65536) := fun h => by subst h; exact (unfG_form hu).2.2.1
  generalize nextR lk b = res at *
  have HU := Lib.hid hu
  have HNs := Lib.hid hns
  have HR := Lib.hid hr
  clear hu hns hr
  go_enter Try.func52, Try.ntmps52
  go_wp2_with fail
  have HBw0 := (Blk.new w 55 #[.int .i64 0, .int .i64 0, .int .i64 0, .int .i64 0, .int .i64 0, .int .i64 0, .int .i64 0])
  have HLw0 := (below_new w (.cells #[.int .i64 0, .int .i64 0, .int .i64 0, .int .i64 0, .int .i64 0, .int .i64 0, .int .i64 0] 55))
  have hsw0 : (w.alloc (.cells #[.int .i64 0, .int .i64 0, .int .i64 0, .int .i64 0, .int .i64 0, .int .i64 0, .int .i64 0] 55)).heap.size = w.heap.size + 1 := by simp
  generalize w.alloc (.cells #[.int .i64 0, .int .i64 0, .int .i64 0, .int .i64 0, .int .i64 0, .int .i64 0, .int .i64 0] 55) = w0 at HBw0 HLw0 hsw0 ⊢
  replace HBw0 := Lib.hid HBw0
  replace HLw0 := Lib.hid HLw0
  have hlw0 : w.heap.size < w0.heap.size := by omega
  replace hsw0 := Lib.hid hsw0
  have HR0 := Lib.hid (HR.out.now HLw0.out)
  with_reducible refine (unf_any A n c b bd k e _ HR0.out (by omega) hc hc2 HU.out).mono ?_
  rintro e' w1 ⟨v1, rfl, hown1, hb1⟩
  have HB1 := Lib.hid (HLw0.out.trans (hb1.mono HLw0.out.size))
  have HZ1 := Lib.hid (HBw0.out.below hb1 hlw0)
  have hlz1 : w.heap.size < w1.heap.size := HZ1.out.lt
  obtain ⟨A1, n1, c1, rfl, HN1, hc11, hc12, hr1⟩ := hown1.nam
  have HR1 := Lib.hid hr1
  clear hown1 hb1 hr1
  by_cases he : e = 0
  · subst he
    have hn1 : n1 ≤ 65536 := by rw [← HN1.out]; exact HForm.out rfl
    have HX1 : Hid (res = if e2 ≠ 0 then none else if okB (rdOf ns) = false then none else if bd.drop at9 ≠ be8 (tagN lk (bd.take at9)) then none else some (rdOf ns, k, tagN lk (bd.take at9))) := by
      rw [HX.out]
      exact hide (if_neg (by simp))
    clear HX
    go_wp2_with fail
    have HBw2 := (Blk.new w1 103 #[.int .i64 0, .int .i64 0, .int .i64 0, .int .i64 0, .int .i64 0, .int .i64 0, .int .i64 0])
    have HLw2 := (below_new w1 (.cells #[.int .i64 0, .int .i64 0, .int .i64 0, .int .i64 0, .int .i64 0, .int .i64 0, .int .i64 0] 103))
    have hsw2 : (w1.alloc (.cells #[.int .i64 0, .int .i64 0, .int .i64 0, .int .i64 0, .int .i64 0, .int .i64 0, .int .i64 0] 103)).heap.size = w1.heap.size + 1 := by simp
    generalize w1.alloc (.cells #[.int .i64 0, .int .i64 0, .int .i64 0, .int .i64 0, .int .i64 0, .int .i64 0, .int .i64 0] 103) = w2 at HBw2 HLw2 hsw2 ⊢
    replace HBw2 := Lib.hid HBw2
    replace HLw2 := Lib.hid HLw2
    have hlw2 : w1.heap.size < w2.heap.size := by omega
    replace hsw2 := Lib.hid hsw2
    have HF2 : Hid (Blk w2 w1.heap.size 103 (fL []).toArray) := HBw2
    have HZ2 := Lib.hid (HZ1.out.below HLw2.out hlz1)
    have HB2 := Lib.hid (HB1.out.trans (HLw2.out.mono HB1.out.size))
    have HR2 := Lib.hid (HR1.out.below HLw2.out)
    clear HBw2 HLw2 hsw2 hlw2
    go_loopw [11, 30] (fun p i wr => ∃ (j m at_ : Nat) (out : List Nat), j + m = 7 ∧ i = .int .i64 (j : Int) ∧ p = .int .i64 (at_ : Int) ∧ at_ ≤ n1 ∧ out.length = j ∧ (∀ x ∈ out, x ≤ 20000000) ∧ numsG bd m at_ out = (ns, at9, e2) ∧ Bytes wr w1.heap.size A1 n1 bd ∧ Blk wr w1.heap.size 103 (fL (toI out)).toArray ∧ Blk wr w.heap.size 55 #[.int .i64 0, .int .i64 0, .int .i64 0, .int .i64 0, .int .i64 0, .int .i64 0, .int .i64 0] ∧ Below w.heap.size w wr) (fun _ i _ => 7 - (intOf i).toNat)
    case atStart => exact ⟨0, 7, 0, [], by omega, rfl, rfl, by omega, rfl, by simp, HNs.out, HR2.out, HF2.out, HZ2.out, HB2.out⟩
    case round =>
      obtain ⟨j, m, at_, out, hjm, rfl, rfl, hat, hol, hall, hnums, hrd, hbf, hbz, hbr⟩ := hrel
      obtain ⟨wo, rfl⟩ : ∃ wo : World, wo = wr := ⟨_, rfl⟩
      have HNum := Lib.hid hnums
      have HAll := Lib.hid hall
      have HOl := Lib.hid hol
      have HRd := Lib.hid hrd
      have HBf := Lib.hid hbf
      have HBz := Lib.hid hbz
      have HB := Lib.hid hbr
      clear hnums hol hrd hbf hbz hbr hall
      by_cases hlt : j < 7
      · obtain ⟨m, rfl⟩ : ∃ m', m = m' + 1 := ⟨m - 1, by omega⟩
        have HJM : Hid (j + 1 + m = 7) := hide (by omega)
        clear hjm
        have hsl := slc_from A1 n1 c1 at_ hat
        have HRt := Lib.hid (Reads.from_ HRd.out hat hc11)
        have hN1 := HNum.out
        rw [numsG] at hN1
        have HLd : Hid ((bd.drop at_).length = n1 - at_) := by show _ = _; rw [List.length_drop, HN1.out]
        rcases getN_cases (bd.drop at_) with ⟨X, Y, hg, hy1, hy9, hyl, hX, hp1, hp2⟩ | ⟨E, hg, hE, hp1⟩
        · rw [hg] at hN1
          rw [HLd.out] at hyl
          simp only [ne_eq, not_true_eq_false, if_false] at hN1
          have HN2 := Lib.hid hN1
          have HGx := Lib.hid hg
          have hyn : at_ + Y ≤ n1 := by omega
          clear hg hp1 hp2 hN1 hyl
          by_cases hbig : 20000000 < X
          · have HNone : Hid (res = none) := by
              show _ = _
              rw [HX1.out]
              by_cases h2 : e2 = 0
              · subst h2
                have := okB_great (by rw [HN1.out]; omega) (by rw [HOl.out]; exact HJM.out) hbig HN2.out
                rw [if_neg (by simp), if_pos this]
              · rw [if_pos h2]
            have hbg : decide (20000000 < (X : Int)) = true := decide_eq_true (by omega)
            have hbg2 : decide (20000000 < X) = true := decide_eq_true hbig
            go_wp2_with fail
            with_reducible refine (get_any X Y 0 _ _ _ _ _ _ HRt.out HGx.out).mono ?_
            rintro e w' ⟨rfl, rfl⟩
            go_wp2_with fail
            exact ⟨rfl, HB.out, .inl ⟨HNone.out, rfl⟩⟩
          · have hbg : decide (20000000 < (X : Int)) = false := decide_eq_false (by omega)
            have hbg2 : decide (20000000 < X) = false := decide_eq_false hbig
            have HTl : Hid ((toI out).length = j) := by show _ = _; rw [toI_len, HOl.out]
            have hcell : wo.cell? ⟨w1.heap.size, j, none⟩ = some (.int .i64 0) := by rw [HBf.out.cell j, ← HTl.out]; exact fL_at (by rw [HTl.out]; exact hlt)
            have hfro : wo.frozen? ⟨w1.heap.size, j, none⟩ = false := HBf.out.frozen j
            have HBf2 : Hid (Blk (wo.setCell ⟨w1.heap.size, j, none⟩ (.int .i64 (X : Int))) w1.heap.size 103 (fL (toI (out ++ [X]))).toArray) := by
              have h := HBf.out.set_ j (.int .i64 (X : Int))
              have h2 := fL_set (f := toI out) (by rw [HTl.out]; exact hlt) (X : Int)
              rw [HTl.out] at h2
              rw [toI_snoc]
              rw [h2] at h
              exact hide h
            have HBz2 : Hid (Blk (wo.setCell ⟨w1.heap.size, j, none⟩ (.int .i64 (X : Int))) w.heap.size 55 #[.int .i64 0, .int .i64 0, .int .i64 0, .int .i64 0, .int .i64 0, .int .i64 0, .int .i64 0]) := hide (HBz.out.far (by simp; omega) _)
            have HB2 : Hid (Below w.heap.size w (wo.setCell ⟨w1.heap.size, j, none⟩ (.int .i64 (X : Int)))) := hide (HB.out.setCell (by simp; omega) _)
            have HR2 : Hid (Bytes (wo.setCell ⟨w1.heap.size, j, none⟩ (.int .i64 (X : Int))) w1.heap.size A1 n1 bd) := by
              refine hide (HRd.out.keep fun p hp => ?_)
              exact World.cell?_of_block (w := wo) (Below.heap_setCell wo _ _ p.block (by simp; omega))
            have HAll2 : Hid (∀ x ∈ out ++ [X], x ≤ 20000000) := fun x hx => by
              rcases List.mem_append.1 hx with hx | hx
              · exact HAll.out x hx
              · simp only [List.mem_cons, List.not_mem_nil, or_false] at hx
                omega
            go_wp2_with fail
            with_reducible refine (get_any X Y 0 _ _ _ _ _ _ HRt.out HGx.out).mono ?_
            rintro e w' ⟨rfl, rfl⟩
            go_wp2_with fail
            go_roundw
            case rel => exact ⟨j + 1, m, at_ + Y, out ++ [X], HJM.out, by go_num, by go_num, hyn, by simp [HOl.out], HAll2.out, HN2.out, HR2.out, HBf2.out, HBz2.out, HB2.out⟩
            case measure => simp [intOf]; omega
        · rw [hg, if_pos hE] at hN1
          simp only [Prod.mk.injEq] at hN1
          obtain ⟨rfl, rfl, rfl⟩ := hN1
          have HGx := Lib.hid hg
          have HNone : Hid (res = none) := by
            show _ = _
            rw [HX1.out, if_pos hE]
          have hb : ((E : Int) != 0) = true := by rw [bne_iff_ne]; omega
          clear hg hp1 hE
          go_wp2_with fail
          with_reducible refine (get_any 0 0 E _ _ _ _ _ _ HRt.out HGx.out).mono ?_
          rintro e w' ⟨rfl, rfl⟩
          go_wp2_with fail
          exact ⟨rfl, HB.out, .inl ⟨HNone.out, rfl⟩⟩
      · obtain rfl : j = 7 := by omega
        obtain rfl : m = 0 := by omega
        have h := HNum.out
        simp only [numsG, Prod.mk.injEq] at h
        obtain ⟨rfl, rfl, rfl⟩ := h
        have HX2 : Hid (res = if bd.drop at_ ≠ be8 (tagN lk (bd.take at_)) then none else some (rdOf out, k, tagN lk (bd.take at_))) := by
          rw [HX1.out, if_neg (by simp), if_neg (by rw [okB_all HOl.out HAll.out]; simp)]
          exact hide rfl
        clear HX1
        by_cases h8 : n1 - at_ = 8
        · have hq8 : ((n1 : Int) - (at_ : Int) != 8) = false := by simp; omega
          have HLd : Hid ((bd.drop at_).length = 8) := by show _ = _; rw [List.length_drop, HN1.out, h8]
          have hsl := slc_from A1 n1 c1 at_ hat
          rw [h8] at hsl
          have HRt : Hid (Bytes wo w1.heap.size (cutA A1 c1 at_) 8 (bd.drop at_)) := by
            have h := Reads.from_ HRd.out hat hc11
            rw [h8] at h
            exact hide h
          have HD := Lib.hid (be8_iff (bd.drop at_) HLd.out (tagN lk (bd.take at_)) (tagN_lt _ _))
          obtain ⟨T, hT⟩ : ∃ x, tagN lk (bd.take at_) = x := ⟨_, rfl⟩
          have HTlt : Hid (T < 18446744073709551616) := by show _ < _; rw [← hT]; exact tagN_lt _ _
          rw [hT] at HX2 HD
          have HTe := Lib.hid hT
          clear hT
          generalize hdd : bd.drop at_ = dd at *
          have HDd := Lib.hid hdd
          clear hdd
          generalize cutA A1 c1 at_ = A2 at *
          generalize c1 - at_ = c2 at *
          go_wp2_with fail
          clear hsl
          go_loop [16, 67] (fun s i => ∃ j : Nat, j ≤ 8 ∧ i = .int .i64 j ∧ s = .int .u64 ((deN (dd.take j) : Nat) : Int)) (fun _ i => 8 - (intOf i).toNat)
          case atStart => exact ⟨0, by omega, rfl, rfl⟩
          case round =>
            obtain ⟨j, hj, rfl, rfl⟩ := hrel
            by_cases hj8 : j < 8
            · obtain ⟨ad, rfl, _, hcx⟩ := HRt.out.byte hj8
              have HDN := Lib.hid (deN_next dd j (by rw [HLd.out]; exact hj8))
              have hS : deN (dd.take j) < 72057594037927936 := by
                have h := deN_lt (dd.take j)
                have h2 : (dd.take j).length ≤ 7 := by simp; omega
                have h3 := Nat.pow_le_pow_right (show 0 < 256 by omega) h2
                have h4 : (256 : Nat) ^ 7 = 72057594037927936 := by decide
                omega
              have hx := UInt8.toNat_lt (dd.getD j 0)
              obtain ⟨S, hSe⟩ : ∃ S, deN (dd.take j) = S := ⟨_, rfl⟩
              obtain ⟨x, hxe⟩ : ∃ x, (dd.getD j 0).toNat = x := ⟨_, rfl⟩
              rw [hSe] at hS HDN ⊢
              rw [hxe] at hx HDN hcx
              have ho := or8_form S x hS hx
              have HSe := Lib.hid hSe
              have HXe := Lib.hid hxe
              clear hSe hxe
              go_wp2_with fail
              go_round
              case rel => exact ⟨j + 1, by omega, by go_num, by rw [HDN.out]; congr 1⟩
              case measure => simp [intOf]; omega
            · obtain rfl : j = 8 := by omega
              have HTk : Hid (dd.take 8 = dd) := by show _ = _; rw [List.take_of_length_le (by rw [HLd.out]; exact Nat.le_refl _)]
              rw [HTk.out]
              have hst := slc_to A1 n1 c1 at_ (by omega)
              have HRf : Hid (Bytes wo w1.heap.size A1 at_ (bd.take at_)) := hide (Reads.bfront HRd.out hat)
              have hSlt : deN dd < 18446744073709551616 := by
                have h := deN_lt dd
                rw [HLd.out] at h
                have h4 : (256 : Nat) ^ 8 = 18446744073709551616 := by decide
                omega
              obtain ⟨S, hSe⟩ : ∃ S, deN dd = S := ⟨_, rfl⟩
              rw [hSe] at HD hSlt ⊢
              clear hSe
              go_wp2_with fail
              with_reducible refine (chain_any (lk : Int) (by omega) (by omega) A1 at_ c1 _ (bd.take at_) _ HRf.out (by omega) (by omega)).mono ?_
              rintro e' w' ⟨rfl, rfl⟩
              rw [Int.toNat_natCast, HTe.out]
              clear hst
              have hTlt := HTlt.out
              by_cases hST : S = T
              · have hqq : ((S : Int) != (T : Int)) = false := by simp; omega
                have HSome : Hid (res = some (rdOf out, k, T)) := by
                  show _ = _
                  rw [HX2.out, if_neg (by simpa using HD.out.2 hST)]
                obtain ⟨a, b', c', d, e, f, g, rfl⟩ := seven out HOl.out
                have HBf8 : Hid (Blk wo w1.heap.size 103 #[.int .i64 (a : Int), .int .i64 (b' : Int), .int .i64 (c' : Int), .int .i64 (d : Int), .int .i64 (e : Int), .int .i64 (f : Int), .int .i64 (g : Int)]) := hide HBf.out
                have c0 : wo.cell? ⟨w1.heap.size, 0, none⟩ = some (.int .i64 (a : Int)) := HBf8.out.cell 0
                have c1 : wo.cell? ⟨w1.heap.size, 1, none⟩ = some (.int .i64 (b' : Int)) := HBf8.out.cell 1
                have c2 : wo.cell? ⟨w1.heap.size, 2, none⟩ = some (.int .i64 (c' : Int)) := HBf8.out.cell 2
                have c3 : wo.cell? ⟨w1.heap.size, 3, none⟩ = some (.int .i64 (d : Int)) := HBf8.out.cell 3
                have c4 : wo.cell? ⟨w1.heap.size, 4, none⟩ = some (.int .i64 (e : Int)) := HBf8.out.cell 4
                have c5 : wo.cell? ⟨w1.heap.size, 5, none⟩ = some (.int .i64 (f : Int)) := HBf8.out.cell 5
                have c6 : wo.cell? ⟨w1.heap.size, 6, none⟩ = some (.int .i64 (g : Int)) := HBf8.out.cell 6
                have hlo : w.heap.size < wo.heap.size := HBz.out.lt
                go_wp2_with (first
                  | (refine wpList_store_blk rfl 55 (.tmp 19) (.tmp 101) rfl wo.heap.size #[.int .i64 (a : Int), .int .i64 (b' : Int), .int .i64 (c' : Int), .int .i64 (d : Int), .int .i64 (e : Int), .int .i64 (f : Int), .int .i64 (g : Int)] rfl rfl _ _ (Blk.new wo 55 #[.int .i64 0, .int .i64 0, .int .i64 0, .int .i64 0, .int .i64 0, .int .i64 0, .int .i64 0]) (by kernel_rfl) rfl (by simp [Value.oneCell']) ?_
                     intro w5 hx5 hon5
                     have HX5 := Lib.hid hx5
                     have hb5 := hon5.below (below_new wo (.cells #[.int .i64 0, .int .i64 0, .int .i64 0, .int .i64 0, .int .i64 0, .int .i64 0, .int .i64 0] 55)) (Nat.le_refl _)
                     have HB5 := Lib.hid (HB.out.trans (hb5.mono HB.out.size))
                     have HZ5 := Lib.hid (HBz.out.below hb5 hlo)
                     clear hx5 hon5 hb5)
                  | (refine wpList_load_g 55 (.tmp 19) rfl rfl wo.heap.size rfl _ _ HX5.out _ Try.underlying55 rfl (by kernel_rfl) ?_)
                  | (refine wpList_store_blk rfl 55 (.tmp 4) (.tmp 102) rfl w.heap.size #[.int .i64 (a : Int), .int .i64 (b' : Int), .int .i64 (c' : Int), .int .i64 (d : Int), .int .i64 (e : Int), .int .i64 (f : Int), .int .i64 (g : Int)] rfl rfl _ _ HZ5.out (by kernel_rfl) rfl (by simp [Value.oneCell']) ?_
                     intro w6 HBz6 hon6
                     have HZ6 := Lib.hid HBz6
                     have HB6 := Lib.hid (hon6.below HB5.out (Nat.le_refl _))
                     clear HBz6 hon6))
                refine bodyPost_ret (v := .tuple #[.agg #[.int .i64 (a : Int), .int .i64 (b' : Int), .int .i64 (c' : Int), .int .i64 (d : Int), .int .i64 (e : Int), .int .i64 (f : Int), .int .i64 (g : Int)], .int .u64 (T : Int), .int .i64 (k : Int)]) (res_ct2 rfl _ _ ⟨w.heap.size, 0, none⟩ _ _ _ rfl (load_blk HZ6.out Try.underlying55 rfl (by kernel_rfl)) rfl rfl) rfl ?_
                exact ⟨HB6.out, .inr ⟨rdOf [a, b', c', d, e, f, g], k, T, HSome.out, rfl⟩⟩
              · have hqq : ((S : Int) != (T : Int)) = true := by rw [bne_iff_ne]; omega
                have HNone : Hid (res = none) := by
                  show _ = _
                  rw [HX2.out, if_pos (fun h => hST (HD.out.1 h))]
                go_wp2_with fail
                exact ⟨rfl, HB.out, .inl ⟨HNone.out, rfl⟩⟩
        · have hq8 : ((n1 : Int) - (at_ : Int) != 8) = true := by rw [bne_iff_ne]; omega
          have HNone : Hid (res = none) := by
            show _ = _
            rw [HX2.out, if_pos]
            intro h
            have := congrArg List.length h
            rw [List.length_drop, HN1.out, be8_len] at this
            exact h8 this
          go_wp2_with fail
          exact ⟨rfl, HB.out, .inl ⟨HNone.out, rfl⟩⟩
  · have hb : ((e : Int) != 0) = true := by rw [bne_iff_ne]; omega
    have HX5 : Hid (res = none) := by rw [HX.out, if_pos he]; exact hide rfl
    go_wp2_with fail
    exact ⟨rfl, HB1.out, .inl ⟨HX5.out, rfl⟩⟩
end

end Go.Proofs.Ytedeggjefnpjgaa
