/-
  Searches of lists of chapter 56 and of its references, walked.
-/
import Derived.Test.YticoeibccdplaaaSwpM
import Derived.BigQuiet
import Derived.Deep.Light
import Derived.IntWalk
namespace Go.Proofs.Yticoeibccdplaaa
open Go.RowKit

theorem ret_b {a b : Bool} (h : a = b) : Ending.returned (.bool a) = .returned (.bool b) := by rw [h]
theorem ret_i {k : IntKind} {a b : Int} (h : a = b) : Ending.returned (.int k a) = .returned (.int k b) := by rw [h]
theorem contains_ind : ∀ (l : List Int) (x : Int) (k : Nat), l.contains x = decide (0 ≤ idxF (fun y => y == x) l k)
  | [], x, k => rfl
  | y :: l, x, k => by
    rw [List.contains_cons, idxF]
    by_cases h : x = y
    · subst h; simp
    · have h1 : (x == y) = false := beq_eq_false_iff_ne.2 h
      have h2 : (y == x) = false := beq_eq_false_iff_ne.2 (Ne.symm h)
      rw [h1, h2, contains_ind l x (k + 1)]
      simp

set_option maxRecDepth 100000 in
set_option maxHeartbeats 1000000 in
theorem index_any (A : Option Addr) (n c B : Nat) (l : List Int) (x : Int) (w : World) (hr : Ints w B A n l) (hn : n ≤ maxLen) :
    Calls Try.prog 54 #[.slice A n c, .int .i64 x] w fun e w' => e = .returned (.int .i64 (indI l x)) ∧ w = w' := by
  unfold maxLen at hn
  have HR := Lib.hid hr
  have HL := Lib.hid hr.ilen
  clear hr
  go_enter Try.func54, Try.ntmps54
  go_wp2_with fail
  go_loop [8] (fun i => ∃ k : Nat, k ≤ n ∧ i = .int .i64 k ∧ indI l x = idxF (fun y => y == x) (l.drop k) k) (fun i => n - (intOf i).toNat)
  case atStart => exact ⟨0, by omega, rfl, rfl⟩
  case round =>
    obtain ⟨k, hk, rfl, hno⟩ := hrel
    have HNo := Lib.hid hno
    clear hno
    by_cases hlt : k < n
    · obtain ⟨ad, rfl, _, hc⟩ := HR.out.int hlt
      have HY : Hid ((l.getD k 0 == x) = true → indI l x = (k : Int)) := fun h => HNo.out.trans (idxF_yes (by rw [HL.out]; exact hlt) h)
      have HN : Hid ((l.getD k 0 == x) = false → indI l x = idxF (fun y => y == x) (l.drop (k + 1)) (k + 1)) := fun h => HNo.out.trans (idxF_no (by rw [HL.out]; exact hlt) h)
      generalize l.getD k 0 = y at *
      by_cases hxy : x = y
      · have HF := Lib.hid (HY.out (by rw [hxy]; exact beq_self_eq_true _))
        have d1 : (x == y) = true := beq_iff_eq.2 hxy
        clear hxy
        go_wp2_with fail
        go_ret
        exact ⟨ret_i HF.out.symm, rfl⟩
      · have d1 : (x == y) = false := beq_eq_false_iff_ne.2 hxy
        have HF := Lib.hid (HN.out (beq_eq_false_iff_ne.2 (Ne.symm hxy)))
        clear hxy
        go_wp2_with fail
        go_round
        case rel => exact ⟨k + 1, by omega, by go_num, HF.out⟩
        case measure => simp [intOf]; omega
    · obtain rfl : k = n := by omega
      have HF : Hid (indI l x = -1) := by have h := HNo.out; rw [List.drop_of_length_le (by rw [HL.out]; exact Nat.le_refl _)] at h; exact hide h
      go_wp2_with fail
      go_ret
      exact ⟨ret_i HF.out.symm, rfl⟩
set_option maxRecDepth 100000 in
set_option maxHeartbeats 1000000 in
theorem contains_any (A : Option Addr) (n c B : Nat) (l : List Int) (x : Int) (b : Bool) (w : World) (hr : Ints w B A n l) (hn : n ≤ maxLen) (hb : l.contains x = b) :
    Calls Try.prog 41 #[.slice A n c, .int .i64 x] w fun e w' => e = .returned (.bool b) ∧ w = w' := by
  have HB : Hid (decide (0 ≤ indI l x) = b) := hide (by rw [← hb]; exact (contains_ind l x 0).symm)
  have HC := Lib.hid (index_any A n c B l x w hr hn)
  clear hb hr
  generalize indI l x = r at *
  go_enter Try.func41, Try.ntmps41
  go_wp2_with fail
  with_reducible refine HC.out.mono ?_
  rintro e w' ⟨rfl, rfl⟩
  go_wp2_with fail
  go_ret
  exact ⟨ret_b HB.out, rfl⟩
set_option maxRecDepth 100000 in
set_option maxHeartbeats 1000000 in
theorem rhas_any (A : Option Addr) (n c B : Nat) (l : List Int) (x : Int) (b : Bool) (w : World) (hr : Ints w B A n l) (hn : n ≤ maxLen) (hb : l.contains x = b) :
    Calls Try.prog 33 #[.slice A n c, .int .i64 x] w fun e w' => e = .returned (.bool b) ∧ w = w' := by
  unfold maxLen at hn
  have HR := Lib.hid hr
  have HL := Lib.hid hr.ilen
  have HB : Hid (decide (0 ≤ indI l x) = b) := hide (by rw [← hb]; exact (contains_ind l x 0).symm)
  clear hr hb
  go_enter Try.func33, Try.ntmps33
  go_wp2_with fail
  go_loop [5] (fun i => ∃ k : Nat, k ≤ n ∧ i = .int .i64 k ∧ indI l x = idxF (fun y => y == x) (l.drop k) k) (fun i => n - (intOf i).toNat)
  case atStart => exact ⟨0, by omega, rfl, rfl⟩
  case round =>
    obtain ⟨k, hk, rfl, hno⟩ := hrel
    have HNo := Lib.hid hno
    clear hno
    by_cases hlt : k < n
    · obtain ⟨ad, rfl, _, hc⟩ := HR.out.int hlt
      have HY : Hid ((l.getD k 0 == x) = true → indI l x = (k : Int)) := fun h => HNo.out.trans (idxF_yes (by rw [HL.out]; exact hlt) h)
      have HN : Hid ((l.getD k 0 == x) = false → indI l x = idxF (fun y => y == x) (l.drop (k + 1)) (k + 1)) := fun h => HNo.out.trans (idxF_no (by rw [HL.out]; exact hlt) h)
      generalize l.getD k 0 = y at *
      cases hxy : (y == x) with
      | true =>
        have HF : Hid (b = true) := hide (by rw [← HB.out, HY.out hxy]; exact decide_eq_true (by omega))
        go_wp2_with fail
        go_ret
        exact ⟨ret_b HF.out.symm, rfl⟩
      | false =>
        have HF := Lib.hid (HN.out hxy)
        go_wp2_with fail
        go_round
        case rel => exact ⟨k + 1, by omega, by go_num, HF.out⟩
        case measure => simp [intOf]; omega
    · obtain rfl : k = n := by omega
      have HF : Hid (b = false) := by have h := HNo.out; rw [List.drop_of_length_le (by rw [HL.out]; exact Nat.le_refl _)] at h; exact hide (by rw [← HB.out, h]; rfl)
      go_wp2_with fail
      go_ret
      exact ⟨ret_b HF.out.symm, rfl⟩

theorem findF_yes' {l : List Rn} {i : Int} {k : Nat} (h : k < l.length) (he : (l.getD k rn0).id = i) : findF (l.drop k) i = some (l.getD k rn0) := by
  have e : l.getD k rn0 = l[k] := by simp [List.getElem?_eq_getElem h]
  rw [e] at he ⊢
  exact findF_yes h he
theorem findF_no' {l : List Rn} {i : Int} {k : Nat} (h : k < l.length) (he : (l.getD k rn0).id ≠ i) : findF (l.drop k) i = findF (l.drop (k + 1)) i := by
  have e : l.getD k rn0 = l[k] := by simp [List.getElem?_eq_getElem h]
  rw [e] at he
  exact findF_no h he
/-- what Run returns -/
def RunR (rs : List Rn) (i : Int) (w : World) (e : Ending) (w' : World) : Prop := e = .returned (.tuple #[.agg #[.int .i64 (getR rs i).id, .int .i64 (getR rs i).op, .int .i64 (getR rs i).fr, .int .i64 (getR rs i).tt, .int .i64 (getR rs i).gr, .int .i64 (getR rs i).zn, .int .i64 (getR rs i).ln], .bool (hasR rs i)]) ∧ Below w.heap.size w w'
theorem runR_of {rs : List Rn} {i : Int} {w w' : World} {g : Option Rn} (h : findF rs i = g) (hb : Below w.heap.size w w') : RunR rs i w (.returned (.tuple #[.agg #[.int .i64 (g.getD rn0).id, .int .i64 (g.getD rn0).op, .int .i64 (g.getD rn0).fr, .int .i64 (g.getD rn0).tt, .int .i64 (g.getD rn0).gr, .int .i64 (g.getD rn0).zn, .int .i64 (g.getD rn0).ln], .bool g.isSome])) w' := by
  unfold RunR getR hasR
  rw [h]
  exact ⟨rfl, hb⟩

set_option maxRecDepth 100000 in
set_option maxHeartbeats 2000000 in
theorem run_any (vn vl vr vb : Value) (rs : List Rn) (i : Int) (w : World) (hm : StrV Rn.cells 7 w w.heap.size vr rs) :
    Calls Try.prog 40 #[.agg #[vn, vl, vr, vb], .int .i64 i] w (RunR rs i w) := by
  obtain ⟨A, n, c, rfl, HL, h1, h2, hr⟩ := hm.nam
  have HR := Lib.hid hr
  have hn : n ≤ maxLen := Nat.le_trans h1 h2
  unfold maxLen at hn
  clear hm hr h1 h2
  go_enter Try.func40, Try.ntmps40
  go_wp2_with fail
  have HBwa := (Blk.new w 27 #[vn, vl, .slice A n c, vb])
  have HLwa := (below_new w (.cells #[vn, vl, .slice A n c, vb] 27))
  have hswa : (w.alloc (.cells #[vn, vl, .slice A n c, vb] 27)).heap.size = w.heap.size + 1 := by simp
  generalize w.alloc (.cells #[vn, vl, .slice A n c, vb] 27) = wa at HBwa HLwa hswa ⊢
  replace HBwa := Lib.hid HBwa
  replace HLwa := Lib.hid HLwa
  have hlwa : w.heap.size < wa.heap.size := by omega
  replace hswa := Lib.hid hswa
  have HBwb := (Blk.new wa 60 #[.int .i64 0, .int .i64 0, .int .i64 0, .int .i64 0, .int .i64 0, .int .i64 0, .int .i64 0])
  have HLwb := (below_new wa (.cells #[.int .i64 0, .int .i64 0, .int .i64 0, .int .i64 0, .int .i64 0, .int .i64 0, .int .i64 0] 60))
  have hswb : (wa.alloc (.cells #[.int .i64 0, .int .i64 0, .int .i64 0, .int .i64 0, .int .i64 0, .int .i64 0, .int .i64 0] 60)).heap.size = wa.heap.size + 1 := by simp
  generalize wa.alloc (.cells #[.int .i64 0, .int .i64 0, .int .i64 0, .int .i64 0, .int .i64 0, .int .i64 0, .int .i64 0] 60) = wb at HBwb HLwb hswb ⊢
  replace HBwb := Lib.hid HBwb
  replace HLwb := Lib.hid HLwb
  have hlwb : wa.heap.size < wb.heap.size := by omega
  replace hswb := Lib.hid hswb
  have HBb := Lib.hid (HLwa.out.trans (HLwb.out.mono HLwa.out.size))
  have hla : w.heap.size ≤ wa.heap.size := HLwa.out.size
  have hlb : w.heap.size ≤ wb.heap.size := HBb.out.size
  have HXb : Hid (Blk wb (w.heap.size + 1) 60 #[.int .i64 0, .int .i64 0, .int .i64 0, .int .i64 0, .int .i64 0, .int .i64 0, .int .i64 0]) := by rw [← hswa.out]; exact HBwb.out
  have hlx : w.heap.size + 1 < wb.heap.size := HXb.out.lt
  go_loopw [11] (fun v wr => ∃ k : Nat, k ≤ n ∧ v = .int .i64 k ∧ findF rs i = findF (rs.drop k) i ∧ Below wb.heap.size wb wr) (fun v _ => n - (intOf v).toNat)
  case atStart => exact ⟨0, by omega, rfl, rfl, Below.refl _ _⟩
  case round =>
    obtain ⟨k, hk, rfl, hF, hbr⟩ := hrel
    obtain ⟨wo, rfl⟩ : ∃ wo : World, wo = wr := ⟨_, rfl⟩
    have HB := Lib.hid hbr
    have hsz := hbr.size
    have HBo := Lib.hid (HBb.out.trans (hbr.mono hlb))
    have HXo := Lib.hid (HXb.out.below hbr hlx)
    have HF := Lib.hid hF
    clear hbr hF
    by_cases hlt : k < n
    · obtain ⟨ad, rfl, hab, hcs⟩ := strs_at (HR.out.below HBo.out) (fun _ => rfl) HL.out hlt rn0
      have HY : Hid ((rs.getD k rn0).id = i → findF rs i = some (rs.getD k rn0)) := fun h => HF.out.trans (findF_yes' (by rw [HL.out]; exact hlt) h)
      have HN : Hid ((rs.getD k rn0).id ≠ i → findF rs i = findF (rs.drop (k + 1)) i) := fun h => HF.out.trans (findF_no' (by rw [HL.out]; exact hlt) h)
      generalize rs.getD k rn0 = b at *
      obtain ⟨id, op, fr, tt, gr, zn, ln⟩ := b
      have HCs : Hid (∀ j u, ([.int .i64 id, .int .i64 op, .int .i64 fr, .int .i64 tt, .int .i64 gr, .int .i64 zn, .int .i64 ln] : List Value)[j]? = some u → wo.cell? ((ad.add (k * 7)).add j) = some u) := hcs
      clear hcs
      by_cases hid : id = i
      · have HF2 := Lib.hid (HY.out hid)
        have d1 : (id == i) = true := beq_iff_eq.2 hid
        clear hid
        go_wp2_with
          (first
           | (refine wpList_load_at 60 (.tmp 13) rfl rfl (ad.add (k * 7)) rfl [.int .i64 id, .int .i64 op, .int .i64 fr, .int .i64 tt, .int .i64 gr, .int .i64 zn, .int .i64 ln] HCs.out _ Try.underlying60 rfl (by kernel_rfl) ?_)
           | (refine wpList_store_blk rfl 60 (.tmp 7) (.tmp 14) rfl wo.heap.size #[.int .i64 id, .int .i64 op, .int .i64 fr, .int .i64 tt, .int .i64 gr, .int .i64 zn, .int .i64 ln] rfl rfl _ _ (Blk.new wo 60 #[.int .i64 0, .int .i64 0, .int .i64 0, .int .i64 0, .int .i64 0, .int .i64 0, .int .i64 0]) (by kernel_rfl) rfl (by simp [Value.oneCell']) ?_
              intro w1 hx1 hon1
              have hb1 := hon1.below (below_new wo (.cells #[.int .i64 0, .int .i64 0, .int .i64 0, .int .i64 0, .int .i64 0, .int .i64 0, .int .i64 0] 60)) (Nat.le_refl _)
              have HX1 := Lib.hid hx1
              have HY1 := Lib.hid (HXo.out.below hb1 (by omega))
              have HB1 := Lib.hid (HBo.out.trans (hb1.mono HBo.out.size))
              have e0 : w1.cell? ⟨wo.heap.size, 0, none⟩ = some (.int .i64 id) := HX1.out.cell 0
              have e1 : w1.cell? ⟨wo.heap.size, 1, none⟩ = some (.int .i64 op) := HX1.out.cell 1
              have e2 : w1.cell? ⟨wo.heap.size, 2, none⟩ = some (.int .i64 fr) := HX1.out.cell 2
              have e3 : w1.cell? ⟨wo.heap.size, 3, none⟩ = some (.int .i64 tt) := HX1.out.cell 3
              have e4 : w1.cell? ⟨wo.heap.size, 4, none⟩ = some (.int .i64 gr) := HX1.out.cell 4
              have e5 : w1.cell? ⟨wo.heap.size, 5, none⟩ = some (.int .i64 zn) := HX1.out.cell 5
              have e6 : w1.cell? ⟨wo.heap.size, 6, none⟩ = some (.int .i64 ln) := HX1.out.cell 6
              clear hx1 hon1 hb1)
           | (refine wpList_load_g 60 (.tmp 7) rfl rfl wo.heap.size rfl _ _ HX1.out _ Try.underlying60 rfl (by kernel_rfl) ?_)
           | (refine wpList_store_blk rfl 60 (.tmp 4) (.tmp 19) rfl (w.heap.size + 1) #[.int .i64 id, .int .i64 op, .int .i64 fr, .int .i64 tt, .int .i64 gr, .int .i64 zn, .int .i64 ln] rfl rfl _ _ HY1.out (by kernel_rfl) rfl (by simp [Value.oneCell']) ?_
              intro w2 hx2 hon2
              have HX2 := Lib.hid hx2
              have HB2 := Lib.hid (hon2.below HB1.out (by omega))
              clear hx2 hon2))
        refine bodyPost_ret (results_cell_row_tmp rfl _ _ (w.heap.size + 1) 60 _ _ _ rfl rfl HX2.out Try.underlying60 rfl (by kernel_rfl)) rfl ?_
        exact runR_of HF2.out HB2.out
      · have HF2 := Lib.hid (HN.out hid)
        have d1 : (id == i) = false := beq_eq_false_iff_ne.2 hid
        clear hid
        go_wp2_with
          (first
           | (refine wpList_load_at 60 (.tmp 13) rfl rfl (ad.add (k * 7)) rfl [.int .i64 id, .int .i64 op, .int .i64 fr, .int .i64 tt, .int .i64 gr, .int .i64 zn, .int .i64 ln] HCs.out _ Try.underlying60 rfl (by kernel_rfl) ?_)
           | (refine wpList_store_blk rfl 60 (.tmp 7) (.tmp 14) rfl wo.heap.size #[.int .i64 id, .int .i64 op, .int .i64 fr, .int .i64 tt, .int .i64 gr, .int .i64 zn, .int .i64 ln] rfl rfl _ _ (Blk.new wo 60 #[.int .i64 0, .int .i64 0, .int .i64 0, .int .i64 0, .int .i64 0, .int .i64 0, .int .i64 0]) (by kernel_rfl) rfl (by simp [Value.oneCell']) ?_
              intro w1 hx1 hon1
              have hb1 := hon1.below (below_new wo (.cells #[.int .i64 0, .int .i64 0, .int .i64 0, .int .i64 0, .int .i64 0, .int .i64 0, .int .i64 0] 60)) (Nat.le_refl _)
              have HX1 := Lib.hid hx1
              have HB1 := Lib.hid (HB.out.trans (hb1.mono hsz))
              have e0 : w1.cell? ⟨wo.heap.size, 0, none⟩ = some (.int .i64 id) := HX1.out.cell 0
              have e1 : w1.cell? ⟨wo.heap.size, 1, none⟩ = some (.int .i64 op) := HX1.out.cell 1
              have e2 : w1.cell? ⟨wo.heap.size, 2, none⟩ = some (.int .i64 fr) := HX1.out.cell 2
              have e3 : w1.cell? ⟨wo.heap.size, 3, none⟩ = some (.int .i64 tt) := HX1.out.cell 3
              have e4 : w1.cell? ⟨wo.heap.size, 4, none⟩ = some (.int .i64 gr) := HX1.out.cell 4
              have e5 : w1.cell? ⟨wo.heap.size, 5, none⟩ = some (.int .i64 zn) := HX1.out.cell 5
              have e6 : w1.cell? ⟨wo.heap.size, 6, none⟩ = some (.int .i64 ln) := HX1.out.cell 6
              clear hx1 hon1 hb1))
        go_roundw
        case rel => exact ⟨k + 1, by omega, by go_num, HF2.out, HB1.out⟩
        case measure => simp [intOf]; omega
    · obtain rfl : k = n := by omega
      have HF2 : Hid (findF rs i = none) := by have h := HF.out; rw [List.drop_of_length_le (by rw [HL.out]; exact Nat.le_refl _)] at h; exact hide h
      go_wp2_with
        (refine wpList_store_blk rfl 60 (.tmp 4) (.tmp 21) rfl (w.heap.size + 1) #[.int .i64 0, .int .i64 0, .int .i64 0, .int .i64 0, .int .i64 0, .int .i64 0, .int .i64 0] rfl rfl _ _ HXo.out (by kernel_rfl) rfl (by simp [Value.oneCell']) ?_
         intro w2 hx2 hon2
         have HX2 := Lib.hid hx2
         have HB2 := Lib.hid (hon2.below HBo.out (by omega))
         clear hx2 hon2)
      refine bodyPost_ret (results_cell_row_tmp rfl _ _ (w.heap.size + 1) 60 _ _ _ rfl rfl HX2.out Try.underlying60 rfl (by kernel_rfl)) rfl ?_
      exact runR_of HF2.out HB2.out
end Go.Proofs.Yticoeibccdplaaa
