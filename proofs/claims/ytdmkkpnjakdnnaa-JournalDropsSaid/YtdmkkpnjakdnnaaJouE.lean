/-
  Chapter 29: parse and next of the reference, walked.
-/
import Derived.Test.YtdmkkpnjakdnnaaJouD
import Derived.Test.YtdmkkpnjakdnnaaResT
namespace Go.Proofs.Ytdmkkpnjakdnnaa
open Go.RowKit

/-- the cells of an array of seven ints of which the first ones are set -/
def fL (f : List Int) : List Value := f.map (Value.int .i64) ++ List.replicate (7 - f.length) (Value.int .i64 0)
theorem fL_at {f : List Int} (h : f.length < 7) : (fL f).toArray[f.length]? = some (Value.int .i64 0) := by
  have h2 : 7 - f.length = (7 - f.length - 1) + 1 := by omega
  simp only [fL, List.getElem?_toArray]
  rw [h2, List.replicate_succ, List.getElem?_append_right (by simp)]
  simp
theorem fL_set {f : List Int} (h : f.length < 7) (z : Int) : (fL f).toArray.setIfInBounds f.length (.int .i64 z) = (fL (f ++ [z])).toArray := by
  have h2 : 7 - f.length = (7 - (f.length + 1)) + 1 := by omega
  simp only [fL, List.map_append, List.map_cons, List.map_nil, List.length_append, List.length_cons, List.length_nil, List.setIfInBounds_toArray]
  congr 1
  rw [h2, List.replicate_succ, List.set_append_right _ _ (by simp)]
  simp
theorem toI_snoc (l : List Nat) (x : Nat) : toI (l ++ [x]) = toI l ++ [(x : Int)] := by simp [toI]
theorem toI_len (l : List Nat) : (toI l).length = l.length := by simp [toI]

def ParR (ns : List Nat) (k e : Nat) (w : World) (e' : Ending) (w' : World) : Prop := Below w.heap.size w w' ∧ ((e = 0 ∧ e' = .returned (.tuple #[.agg #[.int .i64 (rdOf ns).gate, .int .i64 (rdOf ns).seq, .int .i64 (rdOf ns).ser, .int .i64 (rdOf ns).cnt, .int .i64 (rdOf ns).prod, .int .i64 (rdOf ns).lift, .int .i64 (rdOf ns).att], .int .i64 (k : Int), .bool true])) ∨ (e ≠ 0 ∧ e' = .returned (.tuple #[.agg #[.int .i64 0, .int .i64 0, .int .i64 0, .int .i64 0, .int .i64 0, .int .i64 0, .int .i64 0], .int .i64 0, .bool false])))

set_option maxRecDepth 100000 in
set_option maxHeartbeats 4000000 in
theorem rparse_any (A : Option Addr) (n c : Nat) (body : List UInt8) (ns : List Nat) (k e : Nat) (w : World) (hr : Bytes w w.heap.size A n body) (hn : n ≤ 1000000) (hc : n ≤ c) (hc2 : c ≤ maxLen) (hT : numsG body 7 0 [] = (ns, k, e)) :
    Calls Try.prog 53 #[.slice A n c] w (ParR ns k e w) := by
  have HR := Lib.hid hr
  have HL := Lib.hid hr.blen
  have HM := Lib.hid hc2
  have HT := Lib.hid hT
  clear hr hc2 hT
  go_enter Try.func53, Try.ntmps53
  go_wp2_with fail
  have HBwa := (Blk.new w 30 #[.int .i64 0, .int .i64 0, .int .i64 0, .int .i64 0, .int .i64 0, .int .i64 0, .int .i64 0])
  have HLwa := (below_new w (.cells #[.int .i64 0, .int .i64 0, .int .i64 0, .int .i64 0, .int .i64 0, .int .i64 0, .int .i64 0] 30))
  have hswa : (w.alloc (.cells #[.int .i64 0, .int .i64 0, .int .i64 0, .int .i64 0, .int .i64 0, .int .i64 0, .int .i64 0] 30)).heap.size = w.heap.size + 1 := by simp
  generalize w.alloc (.cells #[.int .i64 0, .int .i64 0, .int .i64 0, .int .i64 0, .int .i64 0, .int .i64 0, .int .i64 0] 30) = wa at HBwa HLwa hswa ⊢
  replace HBwa := Lib.hid HBwa
  replace HLwa := Lib.hid HLwa
  have hlwa : w.heap.size < wa.heap.size := by omega
  replace hswa := Lib.hid hswa
  have HBwb := (Blk.new wa 53 #[.int .i64 0, .int .i64 0, .int .i64 0, .int .i64 0, .int .i64 0, .int .i64 0, .int .i64 0])
  have HLwb := (below_new wa (.cells #[.int .i64 0, .int .i64 0, .int .i64 0, .int .i64 0, .int .i64 0, .int .i64 0, .int .i64 0] 53))
  have hswb : (wa.alloc (.cells #[.int .i64 0, .int .i64 0, .int .i64 0, .int .i64 0, .int .i64 0, .int .i64 0, .int .i64 0] 53)).heap.size = wa.heap.size + 1 := by simp
  generalize wa.alloc (.cells #[.int .i64 0, .int .i64 0, .int .i64 0, .int .i64 0, .int .i64 0, .int .i64 0, .int .i64 0] 53) = wb at HBwb HLwb hswb ⊢
  replace HBwb := Lib.hid HBwb
  replace HLwb := Lib.hid HLwb
  have hlwb : wa.heap.size < wb.heap.size := by omega
  replace hswb := Lib.hid hswb
  have hl0 : w.heap.size + 1 < wb.heap.size := by have := hswa.out; have := hswb.out; omega
  have HF0 : Hid (Blk wb (w.heap.size + 1) 53 (fL []).toArray) := by rw [← hswa.out]; exact HBwb.out
  have HZ0 := Lib.hid (HBwa.out.below HLwb.out hlwa)
  have HL0 := Lib.hid (HLwa.out.trans (HLwb.out.mono (by omega)))
  have HR0 := Lib.hid (HR.out.below HL0.out)
  clear HBwa HBwb HLwa HLwb hswa hswb hlwa hlwb
  go_loopw [6, 7] (fun p i wr => ∃ (j m at_ : Nat) (out : List Nat), j + m = 7 ∧ i = .int .i64 (j : Int) ∧ p = .int .i64 (at_ : Int) ∧ at_ ≤ n ∧ out.length = j ∧ numsG body m at_ out = (ns, k, e) ∧ Bytes wr w.heap.size A n body ∧ Blk wr (w.heap.size + 1) 53 (fL (toI out)).toArray ∧ Blk wr w.heap.size 30 #[.int .i64 0, .int .i64 0, .int .i64 0, .int .i64 0, .int .i64 0, .int .i64 0, .int .i64 0] ∧ Below w.heap.size w wr) (fun _ i _ => 7 - (intOf i).toNat)
  case atStart => exact ⟨0, 7, 0, [], by omega, rfl, rfl, by omega, rfl, HT.out, HR0.out, HF0.out, HZ0.out, HL0.out⟩
  case round =>
    obtain ⟨j, m, at_, out, hjm, rfl, rfl, hat, hol, hnums, hrd, hbf, hbz, hbr⟩ := hrel
    obtain ⟨wo, rfl⟩ : ∃ wo : World, wo = wr := ⟨_, rfl⟩
    have HNum := Lib.hid hnums
    have HOl := Lib.hid hol
    have HRd := Lib.hid hrd
    have HBf := Lib.hid hbf
    have HBz := Lib.hid hbz
    have HB := Lib.hid hbr
    clear hnums hol hrd hbf hbz hbr
    by_cases hlt : j < 7
    · obtain ⟨m, rfl⟩ : ∃ m', m = m' + 1 := ⟨m - 1, by omega⟩
      have HJM : Hid (j + 1 + m = 7) := hide (by omega)
      clear hjm
      have HRt : Hid (Bytes wo w.heap.size (if c = at_ then A else A.map (·.add at_)) (n - at_) (body.drop at_)) := by
        have h := Reads.bcut HRd.out (k := at_) (m := n) (cap := c) hat (Nat.le_refl _) hc
        rw [List.take_of_length_le (by rw [List.length_drop, HL.out]; omega)] at h
        exact hide h
      have hN1 := HNum.out
      rw [numsG] at hN1
      have HLd : Hid ((body.drop at_).length = n - at_) := by show _ = _; rw [List.length_drop, HL.out]
      rcases getN_cases (body.drop at_) with ⟨X, Y, hg, hy1, hy9, hyl, hX, hp1, hp2⟩ | ⟨E, hg, hE, hp1⟩
      · rw [hg] at hN1
        rw [HLd.out] at hyl
        simp only [ne_eq, not_true_eq_false, if_false] at hN1
        have HN1 := Lib.hid hN1
        have HGx := Lib.hid hg
        have hyn : at_ + Y ≤ n := by omega
        clear hg hp1 hp2 hN1 hyl
        by_cases hce : c = at_
        · omega
        · have HRt2 := Lib.hid HRt.out
          rw [if_neg hce] at HRt2
          have hce2 : at_ < c := by omega
          clear hce
          have HTl : Hid ((toI out).length = j) := by show _ = _; rw [toI_len, HOl.out]
          have hcell : wo.cell? ⟨w.heap.size + 1, j, none⟩ = some (.int .i64 0) := by rw [HBf.out.cell j, ← HTl.out]; exact fL_at (by rw [HTl.out]; exact hlt)
          have hfro : wo.frozen? ⟨w.heap.size + 1, j, none⟩ = false := HBf.out.frozen j
          have HBf2 : Hid (Blk (wo.setCell ⟨w.heap.size + 1, j, none⟩ (.int .i64 (X : Int))) (w.heap.size + 1) 53 (fL (toI (out ++ [X]))).toArray) := by
            have h := HBf.out.set_ j (.int .i64 (X : Int))
            have h2 := fL_set (f := toI out) (by rw [HTl.out]; exact hlt) (X : Int)
            rw [HTl.out] at h2
            rw [toI_snoc]
            rw [h2] at h
            exact hide h
          have HBz2 : Hid (Blk (wo.setCell ⟨w.heap.size + 1, j, none⟩ (.int .i64 (X : Int))) w.heap.size 30 #[.int .i64 0, .int .i64 0, .int .i64 0, .int .i64 0, .int .i64 0, .int .i64 0, .int .i64 0]) := hide (HBz.out.far (by simp) _)
          have HB2 : Hid (Below w.heap.size w (wo.setCell ⟨w.heap.size + 1, j, none⟩ (.int .i64 (X : Int)))) := hide (HB.out.setCell (by simp) _)
          have HR2 : Hid (Bytes (wo.setCell ⟨w.heap.size + 1, j, none⟩ (.int .i64 (X : Int))) w.heap.size A n body) := by
            refine hide (HRd.out.keep fun p hp => ?_)
            exact World.cell?_of_block (w := wo) (Below.heap_setCell wo _ _ p.block (by simp; omega))
          go_wp2_with fail
          with_reducible refine (rget_any X Y 0 _ _ _ _ _ _ HRt2.out HGx.out).mono ?_
          rintro e w' ⟨rfl, rfl⟩
          go_wp2_with fail
          go_roundw
          case rel => exact ⟨j + 1, m, at_ + Y, out ++ [X], HJM.out, by go_num, by go_num, hyn, by simp [HOl.out], HN1.out, HR2.out, HBf2.out, HBz2.out, HB2.out⟩
          case measure => simp [intOf]; omega
      · rw [hg, if_pos hE] at hN1
        simp only [Prod.mk.injEq] at hN1
        obtain ⟨rfl, rfl, rfl⟩ := hN1
        have HGx := Lib.hid hg
        have HE := Lib.hid hE
        have hb : ((E : Int) != 0) = true := by rw [bne_iff_ne]; omega
        clear hg hp1 hE
        by_cases hce : c = at_
        · have HRt2 := Lib.hid HRt.out
          rw [if_pos hce] at HRt2
          have hb1 : (c == at_) = true := beq_iff_eq.2 hce
          have HCe := Lib.hid hce
          clear hce
          go_wp2_with fail
          with_reducible refine (rget_any 0 0 E _ _ _ _ _ _ HRt2.out HGx.out).mono ?_
          rintro e w' ⟨rfl, rfl⟩
          go_wp2_with
            (refine wpList_store_blk rfl 30 (.tmp 2) (.tmp 25) rfl w.heap.size #[.int .i64 0, .int .i64 0, .int .i64 0, .int .i64 0, .int .i64 0, .int .i64 0, .int .i64 0] rfl rfl _ _ HBz.out (by kernel_rfl) rfl (by decide +kernel) ?_
             intro w5 HBz5 hon5
             have HZ5 := Lib.hid HBz5
             have HB5 := Lib.hid (hon5.below HB.out (Nat.le_refl _))
             clear HBz5 hon5)
          refine bodyPost_ret (v := .tuple #[.agg #[.int .i64 0, .int .i64 0, .int .i64 0, .int .i64 0, .int .i64 0, .int .i64 0, .int .i64 0], .int .i64 0, .bool false]) (res_ct2 rfl _ _ ⟨w.heap.size, 0, none⟩ _ _ _ rfl (load_blk HZ5.out Try.underlying30 rfl (by kernel_rfl)) rfl rfl) rfl ?_
          exact ⟨HB5.out, .inr ⟨HE.out, rfl⟩⟩
        · have HRt2 := Lib.hid HRt.out
          rw [if_neg hce] at HRt2
          have hce2 : at_ < c := by omega
          clear hce
          go_wp2_with fail
          with_reducible refine (rget_any 0 0 E _ _ _ _ _ _ HRt2.out HGx.out).mono ?_
          rintro e w' ⟨rfl, rfl⟩
          go_wp2_with
            (refine wpList_store_blk rfl 30 (.tmp 2) (.tmp 25) rfl w.heap.size #[.int .i64 0, .int .i64 0, .int .i64 0, .int .i64 0, .int .i64 0, .int .i64 0, .int .i64 0] rfl rfl _ _ HBz.out (by kernel_rfl) rfl (by decide +kernel) ?_
             intro w5 HBz5 hon5
             have HZ5 := Lib.hid HBz5
             have HB5 := Lib.hid (hon5.below HB.out (Nat.le_refl _))
             clear HBz5 hon5)
          refine bodyPost_ret (v := .tuple #[.agg #[.int .i64 0, .int .i64 0, .int .i64 0, .int .i64 0, .int .i64 0, .int .i64 0, .int .i64 0], .int .i64 0, .bool false]) (res_ct2 rfl _ _ ⟨w.heap.size, 0, none⟩ _ _ _ rfl (load_blk HZ5.out Try.underlying30 rfl (by kernel_rfl)) rfl rfl) rfl ?_
          exact ⟨HB5.out, .inr ⟨HE.out, rfl⟩⟩
    · obtain rfl : j = 7 := by omega
      obtain rfl : m = 0 := by omega
      have h := HNum.out
      simp only [numsG, Prod.mk.injEq] at h
      obtain ⟨rfl, rfl, rfl⟩ := h
      obtain ⟨a, b, c', d, e, f, g, rfl⟩ := seven out HOl.out
      have HBf8 : Hid (Blk wo (w.heap.size + 1) 53 #[.int .i64 (a : Int), .int .i64 (b : Int), .int .i64 (c' : Int), .int .i64 (d : Int), .int .i64 (e : Int), .int .i64 (f : Int), .int .i64 (g : Int)]) := hide HBf.out
      have c0 : wo.cell? ⟨w.heap.size + 1, 0, none⟩ = some (.int .i64 (a : Int)) := HBf8.out.cell 0
      have c1 : wo.cell? ⟨w.heap.size + 1, 1, none⟩ = some (.int .i64 (b : Int)) := HBf8.out.cell 1
      have c2 : wo.cell? ⟨w.heap.size + 1, 2, none⟩ = some (.int .i64 (c' : Int)) := HBf8.out.cell 2
      have c3 : wo.cell? ⟨w.heap.size + 1, 3, none⟩ = some (.int .i64 (d : Int)) := HBf8.out.cell 3
      have c4 : wo.cell? ⟨w.heap.size + 1, 4, none⟩ = some (.int .i64 (e : Int)) := HBf8.out.cell 4
      have c5 : wo.cell? ⟨w.heap.size + 1, 5, none⟩ = some (.int .i64 (f : Int)) := HBf8.out.cell 5
      have c6 : wo.cell? ⟨w.heap.size + 1, 6, none⟩ = some (.int .i64 (g : Int)) := HBf8.out.cell 6
      go_wp2_with
        (refine wpList_store_blk rfl 30 (.tmp 2) (.tmp 46) rfl w.heap.size #[.int .i64 (a : Int), .int .i64 (b : Int), .int .i64 (c' : Int), .int .i64 (d : Int), .int .i64 (e : Int), .int .i64 (f : Int), .int .i64 (g : Int)] rfl rfl _ _ HBz.out (by kernel_rfl) rfl (by simp [Value.oneCell']) ?_
         intro w5 HBz5 hon5
         have HZ5 := Lib.hid HBz5
         have HB5 := Lib.hid (hon5.below HB.out (Nat.le_refl _))
         clear HBz5 hon5)
      refine bodyPost_ret (v := .tuple #[.agg #[.int .i64 (a : Int), .int .i64 (b : Int), .int .i64 (c' : Int), .int .i64 (d : Int), .int .i64 (e : Int), .int .i64 (f : Int), .int .i64 (g : Int)], .int .i64 (at_ : Int), .bool true]) (res_ct2 rfl _ _ ⟨w.heap.size, 0, none⟩ _ _ _ rfl (load_blk HZ5.out Try.underlying30 rfl (by kernel_rfl)) rfl rfl) rfl ?_
      exact ⟨HB5.out, .inl ⟨rfl, rfl⟩⟩
end Go.Proofs.Ytdmkkpnjakdnnaa
