/-
  Tick of chapter 45, of the program and of its reference, walked.
-/
import Derived.Test.YtegijfmdjaehjaaGruB
import Derived.Test.YtegijfmdjaehjaaOwnI
import Derived.Test.YtegijfmdjaehjaaOwnU
import Derived.Test.YtegijfmdjaehjaaTerR
import Derived.Test.YtegijfmdjaehjaaGroD
namespace Go.Proofs.Ytegijfmdjaehjaa
open Go.RowKit

theorem own_rows {w : World} {base base' : Nat} {e e' : TypeId} {s s' n n' : Nat} {v v' : Value} {xs xs' : List Value} (h : w.ownsRow base e s v n xs) (h' : w.ownsRow base' e' s' v' n' xs') (ht : e ≠ e') : v'.ownBlock = none ∨ v'.ownBlock ≠ v.ownBlock := by
  rcases h'.2 with ⟨rfl, _⟩ | ⟨g', cap', cur', rfl, _, hg', _⟩
  · exact .inl rfl
  · right
    rcases h.2 with ⟨rfl, _⟩ | ⟨g, cap, cur, rfl, _, hg, _⟩
    · simp [Value.ownBlock]
    · intro e0
      have e1 : g' = g := Option.some.inj e0
      subst e1
      have h2 := hg'.symm.trans hg
      simp only [Option.some.injEq, Obj.cells.injEq] at h2
      exact ht h2.2.1.symm
theorem own_ne2 {w : World} {base base' : Nat} {e e' : TypeId} {s s' n n' c : Nat} {v' : Value} {ad : Addr} {xs xs' : List Value} (h : w.ownsRow base e s (.slice (some ad) n c) n xs) (h' : w.ownsRow base' e' s' v' n' xs') (ht : e ≠ e') : v'.ownBlock ≠ some ad.block := by
  rcases own_rows h h' ht with h0 | h0
  · rw [h0]; simp
  · exact h0
theorem own_gt {e : TypeId} {α : Type} {f : α → List Value} {s : Nat} {w : World} {base n c i : Nat} {ad : Addr} {l : List α} (h : OwnT e f s w base (.slice (some ad) n c) l) (hl : l.length = n) (_ : i < n) : base ≤ ad.block ∧ ad.block < w.heap.size := by
  obtain ⟨_, ⟨h0, _⟩ | ⟨g, cap, cur, hv, hbg, hg, _⟩⟩ := h.row hl
  · cases h0
  · injection hv with hv _ _
    injection hv with hv
    rw [hv]
    exact ⟨hbg, (Array.getElem?_eq_some_iff.1 hg).1⟩
theorem OwnI.snoc {w : World} {base n : Nat} {v : Value} {l : List Int} {x : Int} {xs : List Value} (h : w.ownsRow base 3 1 v n xs) (hn : n = l.length + 1) (hx : xs = l.map (Value.int .i64) ++ [.int .i64 x]) : OwnI w base v (l ++ [x]) := OwnI.mk' h (by simp [hn]) (by simp [hx])
theorem tickG_snoc (rs : List Rn) (t : Int) {l : List Gr} {k : Nat} (h : k < l.length) : tickG rs t (l.take (k + 1)) = tickG rs t (l.take k) ++ [tickX rs t (l.getD k gr0)] := by
  unfold tickG
  rw [List.take_succ_eq_append_getElem h, List.map_append]
  simp [List.getElem?_eq_getElem h]
theorem doneG_snoc (t : Int) {l : List Gr} {k : Nat} (h : k < l.length) : doneG t (l.take (k + 1)) = doneG t (l.take k) ++ (if (l.getD k gr0).til ≤ t ∧ (l.getD k gr0).st = 2 then [(l.getD k gr0).run] else []) := by
  unfold doneG
  rw [List.take_succ_eq_append_getElem h, List.filter_append, List.map_append]
  congr 1
  rw [show l[k] = l.getD k gr0 by simp [List.getElem?_eq_getElem h]]
  generalize l.getD k gr0 = x
  by_cases h1 : x.til ≤ t <;> by_cases h2 : x.st = 2 <;> simp [h1, h2]
theorem doneG_len (t : Int) (l : List Gr) : (doneG t l).length ≤ l.length := by
  unfold doneG
  rw [List.length_map]
  exact List.length_filter_le _ _
/-- the clone, as far as it is ticked -/
def tkL (rs : List Rn) (t : Int) (l : List Gr) (k : Nat) : List Gr := tickG rs t (l.take k) ++ l.drop k
theorem tkL_len (rs : List Rn) (t : Int) (l : List Gr) (k : Nat) : (tkL rs t l k).length = l.length := by unfold tkL tickG; simp; omega
theorem tkL_zero (rs : List Rn) (t : Int) (l : List Gr) : tkL rs t l 0 = l := by simp [tkL, tickG]
theorem tkL_all (rs : List Rn) (t : Int) (l : List Gr) : tkL rs t l l.length = tickG rs t l := by simp [tkL]
theorem tkL_at (rs : List Rn) (t : Int) {l : List Gr} {k : Nat} (h : k < l.length) : (tkL rs t l k).getD k gr0 = l.getD k gr0 := by
  unfold tkL tickG
  rw [List.getD_eq_getElem?_getD, List.getElem?_append_right (by simp; omega)]
  simp [Nat.min_eq_left (Nat.le_of_lt h)]
theorem tkL_step (rs : List Rn) (t : Int) {l : List Gr} {k : Nat} (h : k < l.length) : (tkL rs t l k).set k (tickX rs t (l.getD k gr0)) = tkL rs t l (k + 1) := by
  unfold tkL
  rw [tickG_snoc rs t h, List.set_append, if_neg (by unfold tickG; simp; omega)]
  have e : (tickG rs t (l.take k)).length = k := by unfold tickG; simp; omega
  rw [e, Nat.sub_self, List.drop_eq_getElem_cons h, List.set_cons_zero]
  simp
theorem tkL_same (rs : List Rn) (t : Int) {l : List Gr} {k : Nat} (h : k < l.length) (hx : tickX rs t (l.getD k gr0) = l.getD k gr0) : tkL rs t l (k + 1) = tkL rs t l k := by
  rw [← tkL_step rs t h, hx]
  unfold tkL
  have e : (tickG rs t (l.take k)).length = k := by unfold tickG; simp; omega
  rw [List.set_append, if_neg (by omega), e, Nat.sub_self, List.drop_eq_getElem_cons h, List.set_cons_zero]
  simp [List.getElem?_eq_getElem h]
/-- what Tick returns -/
def TkR (rs : List Rn) (t : Int) (l : List Gr) (w : World) (e : Ending) (w' : World) : Prop := ∃ v f, e = .returned (.tuple #[v, f]) ∧ OwnGr w' w.heap.size v (tickG rs t l) ∧ OwnI w' w.heap.size f (doneG t l) ∧ Below w.heap.size w w'
set_option maxRecDepth 100000 in
set_option maxHeartbeats 8000000 in
theorem rended_any (vn vl vr vb : Value) (rs : List Rn) (id nod fuel st tg run til : Int) (win : Bool) (nn : Int) (w : World) (hr : StrV Rn.cells 7 w w.heap.size vr rs) (hnn : (endedG rs ⟨id, nod, fuel, st, tg, run, til, win⟩).nod = nn) :
    Calls Try.prog 49 #[.agg #[vn, vl, vr, vb], .agg #[.int .i64 id, .int .i64 nod, .int .i64 fuel, .int .i64 st, .int .i64 tg, .int .i64 run, .int .i64 til, .bool win]] w fun e w' => e = .returned (.agg #[.int .i64 id, .int .i64 nn, .int .i64 fuel, .int .i64 0, .int .i64 0, .int .i64 0, .int .i64 til, .bool win]) ∧ Below w.heap.size w w' := by
  have HRs := Lib.hid hr
  have HN : Hid ((if st = 1 then tg else if st = 2 ∧ hasR rs run = true then (rnOf rs run).tt else nod) = nn) := hide hnn
  clear hr hnn
  go_enter Try.func49, Try.ntmps49
  go_upto_region 1 with (fail)
  have HBwz0 := (Blk.new w 32 #[vn, vl, vr, vb])
  have HLwz0 := (below_new w (.cells #[vn, vl, vr, vb] 32))
  have hswz0 : (w.alloc (.cells #[vn, vl, vr, vb] 32)).heap.size = w.heap.size + 1 := by simp
  generalize w.alloc (.cells #[vn, vl, vr, vb] 32) = wz0 at HBwz0 HLwz0 hswz0 ⊢
  replace HBwz0 := Lib.hid HBwz0
  replace HLwz0 := Lib.hid HLwz0
  have hlwz0 : w.heap.size < wz0.heap.size := by omega
  replace hswz0 := Lib.hid hswz0
  have HBwz1 := (Blk.new wz0 51 #[.int .i64 id, .int .i64 nod, .int .i64 fuel, .int .i64 st, .int .i64 tg, .int .i64 run, .int .i64 til, .bool win])
  have HLwz1 := (below_new wz0 (.cells #[.int .i64 id, .int .i64 nod, .int .i64 fuel, .int .i64 st, .int .i64 tg, .int .i64 run, .int .i64 til, .bool win] 51))
  have hswz1 : (wz0.alloc (.cells #[.int .i64 id, .int .i64 nod, .int .i64 fuel, .int .i64 st, .int .i64 tg, .int .i64 run, .int .i64 til, .bool win] 51)).heap.size = wz0.heap.size + 1 := by simp
  generalize wz0.alloc (.cells #[.int .i64 id, .int .i64 nod, .int .i64 fuel, .int .i64 st, .int .i64 tg, .int .i64 run, .int .i64 til, .bool win] 51) = wz1 at HBwz1 HLwz1 hswz1 ⊢
  replace HBwz1 := Lib.hid HBwz1
  replace HLwz1 := Lib.hid HLwz1
  have hlwz1 : wz0.heap.size < wz1.heap.size := by omega
  replace hswz1 := Lib.hid hswz1
  have HBwb := (Blk.new wz1 51 #[.int .i64 0, .int .i64 0, .int .i64 0, .int .i64 0, .int .i64 0, .int .i64 0, .int .i64 0, .bool false])
  have HLwb := (below_new wz1 (.cells #[.int .i64 0, .int .i64 0, .int .i64 0, .int .i64 0, .int .i64 0, .int .i64 0, .int .i64 0, .bool false] 51))
  have hswb : (wz1.alloc (.cells #[.int .i64 0, .int .i64 0, .int .i64 0, .int .i64 0, .int .i64 0, .int .i64 0, .int .i64 0, .bool false] 51)).heap.size = wz1.heap.size + 1 := by simp
  generalize wz1.alloc (.cells #[.int .i64 0, .int .i64 0, .int .i64 0, .int .i64 0, .int .i64 0, .int .i64 0, .int .i64 0, .bool false] 51) = wb at HBwb HLwb hswb ⊢
  replace HBwb := Lib.hid HBwb
  replace HLwb := Lib.hid HLwb
  have hlwb : wz1.heap.size < wb.heap.size := by omega
  replace hswb := Lib.hid hswb
  have HQ1 := Lib.hid (HLwz0.out.trans (HLwz1.out.mono HLwz0.out.size))
  have HQ2 := Lib.hid (HQ1.out.trans (HLwb.out.mono HQ1.out.size))
  have HWb := Lib.hid (HQ2.out)
  have hl0 : w.heap.size ≤ wb.heap.size := HWb.out.size
  have HBb : Hid (Below wb.heap.size wb wb) := hide (Below.refl _ _)
  have hszb : wb.heap.size ≤ wb.heap.size := Nat.le_refl _
  have HZ0_1 := Lib.hid (HBwz0.out.below HLwz1.out hlwz0)
  have hz0_1 : w.heap.size < wz1.heap.size := HZ0_1.out.lt
  have HZ0_2 := Lib.hid (HZ0_1.out.below HLwb.out hz0_1)
  have hz0_2 : w.heap.size < wb.heap.size := HZ0_2.out.lt
  have HX0b : Hid (Blk wb w.heap.size 32 #[vn, vl, vr, vb]) := hide HZ0_2.out
  have hxx0 : w.heap.size < wb.heap.size := HX0b.out.lt
  have HZ1_2 := Lib.hid (HBwz1.out.below HLwb.out hlwz1)
  have hz1_2 : wz0.heap.size < wb.heap.size := HZ1_2.out.lt
  have HX1b : Hid (Blk wb (w.heap.size + 1) 51 #[.int .i64 id, .int .i64 nod, .int .i64 fuel, .int .i64 st, .int .i64 tg, .int .i64 run, .int .i64 til, .bool win]) := hide (by have h := HZ1_2.out; rw [show wz0.heap.size = w.heap.size + 1 from by have := hswz0.out; omega] at h; exact h)
  have hxx1 : (w.heap.size + 1) < wb.heap.size := HX1b.out.lt
  have HX2b : Hid (Blk wb (w.heap.size + 1 + 1) 51 #[.int .i64 0, .int .i64 0, .int .i64 0, .int .i64 0, .int .i64 0, .int .i64 0, .int .i64 0, .bool false]) := hide (by have h := HBwb.out; rw [show wz1.heap.size = w.heap.size + 1 + 1 from by have := hswz0.out; have := hswz1.out; omega] at h; exact h)
  have hxx2 : (w.heap.size + 1 + 1) < wb.heap.size := HX2b.out.lt
  clear HBwz0 HLwz0 hswz0 hlwz0
  clear HBwz1 HLwz1 hswz1 hlwz1
  clear HBwb HLwb hswb hlwb
  have HX0c := HX0b
  have HX1c := HX1b
  have HX2c := HX2b
  have HWc := HWb
  have hS : w.heap.size + 1 ≠ w.heap.size := by omega
  have hS2 : w.heap.size + 1 + 1 ≠ w.heap.size + 1 := by omega
  have hS3 : w.heap.size + 1 + 1 ≠ w.heap.size := by omega
  have c0 : wb.cell? ⟨w.heap.size + 1, 0, none⟩ = some (.int .i64 id) := HX1b.out.cell 0
  have c1 : wb.cell? ⟨w.heap.size + 1, 1, none⟩ = some (.int .i64 nod) := HX1b.out.cell 1
  have c2 : wb.cell? ⟨w.heap.size + 1, 2, none⟩ = some (.int .i64 fuel) := HX1b.out.cell 2
  have c3 : wb.cell? ⟨w.heap.size + 1, 3, none⟩ = some (.int .i64 st) := HX1b.out.cell 3
  have c4 : wb.cell? ⟨w.heap.size + 1, 4, none⟩ = some (.int .i64 tg) := HX1b.out.cell 4
  have c5 : wb.cell? ⟨w.heap.size + 1, 5, none⟩ = some (.int .i64 run) := HX1b.out.cell 5
  have c6 : wb.cell? ⟨w.heap.size + 1, 6, none⟩ = some (.int .i64 til) := HX1b.out.cell 6
  have c7 : wb.cell? ⟨w.heap.size + 1, 7, none⟩ = some (.bool win) := HX1b.out.cell 7
  by_cases d1p : st = 1
  · have d1 : (st == 1) = true := beq_iff_eq.2 d1p
    go_upto_region 3 with (refine wpList_store_field 3 (.tmp 12) (.tmp 11) rfl rfl (w.heap.size + 1) 1 (.int .i64 tg) rfl rfl _ _ HX1c.out (by kernel_rfl) (by simp) rfl rfl ?_
                           intro w1 hx1 hon1
                           have HX11 : Hid (Blk w1 (w.heap.size + 1) 51 #[.int .i64 id, .int .i64 tg, .int .i64 fuel, .int .i64 st, .int .i64 tg, .int .i64 run, .int .i64 til, .bool win]) := hide hx1
                           have HX01 := Lib.hid (hon1.blk HX0c.out (Ne.symm hS))
                           have HX21 := Lib.hid (hon1.blk HX2c.out hS2)
                           have HW1 := Lib.hid (hon1.below HWc.out (Nat.le_succ _))
                           clear hx1 hon1)
    clear c0 c1 c2 c3 c4 c5 c6 c7
    have c0 : w1.cell? ⟨w.heap.size + 1, 0, none⟩ = some (.int .i64 id) := HX11.out.cell 0
    have c1 : w1.cell? ⟨w.heap.size + 1, 1, none⟩ = some (.int .i64 tg) := HX11.out.cell 1
    have c2 : w1.cell? ⟨w.heap.size + 1, 2, none⟩ = some (.int .i64 fuel) := HX11.out.cell 2
    have c3 : w1.cell? ⟨w.heap.size + 1, 3, none⟩ = some (.int .i64 st) := HX11.out.cell 3
    have c4 : w1.cell? ⟨w.heap.size + 1, 4, none⟩ = some (.int .i64 tg) := HX11.out.cell 4
    have c5 : w1.cell? ⟨w.heap.size + 1, 5, none⟩ = some (.int .i64 run) := HX11.out.cell 5
    have c6 : w1.cell? ⟨w.heap.size + 1, 6, none⟩ = some (.int .i64 til) := HX11.out.cell 6
    have c7 : w1.cell? ⟨w.heap.size + 1, 7, none⟩ = some (.bool win) := HX11.out.cell 7
    go_wp2_with
      (first
       | (refine wpList_load_g 32 (.tmp 2) rfl rfl w.heap.size rfl _ _ HX01.out _ Try.underlying32 rfl (by kernel_rfl) ?_))
    with_reducible refine (rrun_any _ _ _ _ rs run w1 (HRs.out.now HW1.out)).mono ?_
    rintro e w2 ⟨rfl, hb2⟩
    have HX12 := Lib.hid (HX11.out.below hb2 HX11.out.lt)
    have HX22 := Lib.hid (HX21.out.below hb2 HX21.out.lt)
    have HW2 := Lib.hid (HW1.out.trans (hb2.mono HW1.out.size))
    clear hb2
    obtain ⟨q, hq⟩ : ∃ q, rnOf rs run = q := ⟨_, rfl⟩
    obtain ⟨rb, hrb⟩ : ∃ b, hasR rs run = b := ⟨_, rfl⟩
    rw [hq, hrb]
    have hn := HN.out
    rw [hq, hrb] at hn
    have HN2 := Lib.hid hn
    clear hn hq hrb
    obtain ⟨rid, rop, rfr, rtt, rgr, rzn, rln⟩ := q
    go_upto_region 4 with (fail)
    have HBw3 := (Blk.new w2 56 #[.int .i64 rid, .int .i64 rop, .int .i64 rfr, .int .i64 rtt, .int .i64 rgr, .int .i64 rzn, .int .i64 rln])
    have HLw3 := (below_new w2 (.cells #[.int .i64 rid, .int .i64 rop, .int .i64 rfr, .int .i64 rtt, .int .i64 rgr, .int .i64 rzn, .int .i64 rln] 56))
    have hsw3 : (w2.alloc (.cells #[.int .i64 rid, .int .i64 rop, .int .i64 rfr, .int .i64 rtt, .int .i64 rgr, .int .i64 rzn, .int .i64 rln] 56)).heap.size = w2.heap.size + 1 := by simp
    generalize w2.alloc (.cells #[.int .i64 rid, .int .i64 rop, .int .i64 rfr, .int .i64 rtt, .int .i64 rgr, .int .i64 rzn, .int .i64 rln] 56) = w3 at HBw3 HLw3 hsw3 ⊢
    replace HBw3 := Lib.hid HBw3
    replace HLw3 := Lib.hid HLw3
    have hlw3 : w2.heap.size < w3.heap.size := by omega
    replace hsw3 := Lib.hid hsw3
    have HLr3 := HBw3
    have HX13 := Lib.hid (HX12.out.below HLw3.out HX12.out.lt)
    have HX23 := Lib.hid (HX22.out.below HLw3.out HX22.out.lt)
    have HW3 := Lib.hid (HW2.out.trans (HLw3.out.mono HW2.out.size))
    have hr3 : w.heap.size + 1 < w2.heap.size := HX12.out.lt
    clear HBw3 HLw3 hsw3 hlw3 c0 c1 c2 c3 c4 c5 c6 c7
    have c0 : w3.cell? ⟨w.heap.size + 1, 0, none⟩ = some (.int .i64 id) := HX13.out.cell 0
    have c1 : w3.cell? ⟨w.heap.size + 1, 1, none⟩ = some (.int .i64 tg) := HX13.out.cell 1
    have c2 : w3.cell? ⟨w.heap.size + 1, 2, none⟩ = some (.int .i64 fuel) := HX13.out.cell 2
    have c3 : w3.cell? ⟨w.heap.size + 1, 3, none⟩ = some (.int .i64 st) := HX13.out.cell 3
    have c4 : w3.cell? ⟨w.heap.size + 1, 4, none⟩ = some (.int .i64 tg) := HX13.out.cell 4
    have c5 : w3.cell? ⟨w.heap.size + 1, 5, none⟩ = some (.int .i64 run) := HX13.out.cell 5
    have c6 : w3.cell? ⟨w.heap.size + 1, 6, none⟩ = some (.int .i64 til) := HX13.out.cell 6
    have c7 : w3.cell? ⟨w.heap.size + 1, 7, none⟩ = some (.bool win) := HX13.out.cell 7
    have r0 : w3.cell? ⟨w2.heap.size, 0, none⟩ = some (.int .i64 rid) := HLr3.out.cell 0
    have r1 : w3.cell? ⟨w2.heap.size, 1, none⟩ = some (.int .i64 rop) := HLr3.out.cell 1
    have r2 : w3.cell? ⟨w2.heap.size, 2, none⟩ = some (.int .i64 rfr) := HLr3.out.cell 2
    have r3 : w3.cell? ⟨w2.heap.size, 3, none⟩ = some (.int .i64 rtt) := HLr3.out.cell 3
    have r4 : w3.cell? ⟨w2.heap.size, 4, none⟩ = some (.int .i64 rgr) := HLr3.out.cell 4
    have r5 : w3.cell? ⟨w2.heap.size, 5, none⟩ = some (.int .i64 rzn) := HLr3.out.cell 5
    have r6 : w3.cell? ⟨w2.heap.size, 6, none⟩ = some (.int .i64 rln) := HLr3.out.cell 6
    have d2 : (st == 2) = false := by rw [d1p]; rfl
    have HE : Hid (tg = nn) := hide (by have h := HN2.out; simpa [d1p] using h)
    go_wp2_with
      (first
       | (refine wpList_store_field 3 (.tmp 29) (.const (.int .i64 0)) rfl rfl (w.heap.size + 1) 3 (.int .i64 0) rfl rfl _ _ HX13.out (by kernel_rfl) (by simp) rfl rfl ?_
          intro w5 hx5 hon5
          have HX15 : Hid (Blk w5 (w.heap.size + 1) 51 #[.int .i64 id, .int .i64 tg, .int .i64 fuel, .int .i64 0, .int .i64 tg, .int .i64 run, .int .i64 til, .bool win]) := hide hx5
          have HX25 := Lib.hid (hon5.blk HX23.out hS2)
          have HW5 := Lib.hid (hon5.below HW3.out (Nat.le_succ _))
          clear hx5 hon5)
       | (refine wpList_store_field 3 (.tmp 30) (.const (.int .i64 0)) rfl rfl (w.heap.size + 1) 4 (.int .i64 0) rfl rfl _ _ HX15.out (by kernel_rfl) (by simp) rfl rfl ?_
          intro w6 hx6 hon6
          have HX16 : Hid (Blk w6 (w.heap.size + 1) 51 #[.int .i64 id, .int .i64 tg, .int .i64 fuel, .int .i64 0, .int .i64 0, .int .i64 run, .int .i64 til, .bool win]) := hide hx6
          have HX26 := Lib.hid (hon6.blk HX25.out hS2)
          have HW6 := Lib.hid (hon6.below HW5.out (Nat.le_succ _))
          clear hx6 hon6)
       | (refine wpList_store_field 3 (.tmp 31) (.const (.int .i64 0)) rfl rfl (w.heap.size + 1) 5 (.int .i64 0) rfl rfl _ _ HX16.out (by kernel_rfl) (by simp) rfl rfl ?_
          intro w7 hx7 hon7
          have HX17 : Hid (Blk w7 (w.heap.size + 1) 51 #[.int .i64 id, .int .i64 tg, .int .i64 fuel, .int .i64 0, .int .i64 0, .int .i64 0, .int .i64 til, .bool win]) := hide hx7
          have HX27 := Lib.hid (hon7.blk HX26.out hS2)
          have HW7 := Lib.hid (hon7.below HW6.out (Nat.le_succ _))
          clear hx7 hon7)
       | (refine wpList_load_g 51 (.tmp 3) rfl rfl (w.heap.size + 1) rfl _ _ HX17.out _ Try.underlying51 rfl (by kernel_rfl) ?_)
       | (refine wpList_store_blk rfl 51 (.tmp 4) (.tmp 32) rfl (w.heap.size + 1 + 1) #[.int .i64 id, .int .i64 tg, .int .i64 fuel, .int .i64 0, .int .i64 0, .int .i64 0, .int .i64 til, .bool win] rfl rfl _ _ HX27.out (by kernel_rfl) rfl (by simp [Value.oneCell']) ?_
          intro w8 hx8 hon8
          have HX8 := Lib.hid hx8
          have HW8 := Lib.hid (hon8.below HW7.out (by omega))
          clear hx8 hon8))
    refine bodyPost_ret (results_cell_row rfl _ _ (w.heap.size + 1 + 1) 51 _ (0, 0) _ rfl HX8.out Try.underlying51 rfl (by kernel_rfl)) rfl ?_
    exact ⟨by rw [HE.out], HW8.out⟩
  · have d1 : (st == 1) = false := beq_eq_false_iff_ne.2 d1p
    go_wp2_with
      (first
       | (refine wpList_load_g 32 (.tmp 2) rfl rfl w.heap.size rfl _ _ HX0c.out _ Try.underlying32 rfl (by kernel_rfl) ?_))
    with_reducible refine (rrun_any _ _ _ _ rs run wb (HRs.out.now HWc.out)).mono ?_
    rintro e w2 ⟨rfl, hb2⟩
    have HX12 := Lib.hid (HX1c.out.below hb2 HX1c.out.lt)
    have HX22 := Lib.hid (HX2c.out.below hb2 HX2c.out.lt)
    have HW2 := Lib.hid (HWc.out.trans (hb2.mono HWc.out.size))
    clear hb2
    obtain ⟨q, hq⟩ : ∃ q, rnOf rs run = q := ⟨_, rfl⟩
    obtain ⟨rb, hrb⟩ : ∃ b, hasR rs run = b := ⟨_, rfl⟩
    rw [hq, hrb]
    have hn := HN.out
    rw [hq, hrb] at hn
    have HN2 := Lib.hid hn
    clear hn hq hrb
    obtain ⟨rid, rop, rfr, rtt, rgr, rzn, rln⟩ := q
    go_upto_region 4 with (fail)
    have HBw3 := (Blk.new w2 56 #[.int .i64 rid, .int .i64 rop, .int .i64 rfr, .int .i64 rtt, .int .i64 rgr, .int .i64 rzn, .int .i64 rln])
    have HLw3 := (below_new w2 (.cells #[.int .i64 rid, .int .i64 rop, .int .i64 rfr, .int .i64 rtt, .int .i64 rgr, .int .i64 rzn, .int .i64 rln] 56))
    have hsw3 : (w2.alloc (.cells #[.int .i64 rid, .int .i64 rop, .int .i64 rfr, .int .i64 rtt, .int .i64 rgr, .int .i64 rzn, .int .i64 rln] 56)).heap.size = w2.heap.size + 1 := by simp
    generalize w2.alloc (.cells #[.int .i64 rid, .int .i64 rop, .int .i64 rfr, .int .i64 rtt, .int .i64 rgr, .int .i64 rzn, .int .i64 rln] 56) = w3 at HBw3 HLw3 hsw3 ⊢
    replace HBw3 := Lib.hid HBw3
    replace HLw3 := Lib.hid HLw3
    have hlw3 : w2.heap.size < w3.heap.size := by omega
    replace hsw3 := Lib.hid hsw3
    have HLr3 := HBw3
    have HX13 := Lib.hid (HX12.out.below HLw3.out HX12.out.lt)
    have HX23 := Lib.hid (HX22.out.below HLw3.out HX22.out.lt)
    have HW3 := Lib.hid (HW2.out.trans (HLw3.out.mono HW2.out.size))
    have hr3 : w.heap.size + 1 < w2.heap.size := HX12.out.lt
    clear HBw3 HLw3 hsw3 hlw3 c0 c1 c2 c3 c4 c5 c6 c7
    have c0 : w3.cell? ⟨w.heap.size + 1, 0, none⟩ = some (.int .i64 id) := HX13.out.cell 0
    have c1 : w3.cell? ⟨w.heap.size + 1, 1, none⟩ = some (.int .i64 nod) := HX13.out.cell 1
    have c2 : w3.cell? ⟨w.heap.size + 1, 2, none⟩ = some (.int .i64 fuel) := HX13.out.cell 2
    have c3 : w3.cell? ⟨w.heap.size + 1, 3, none⟩ = some (.int .i64 st) := HX13.out.cell 3
    have c4 : w3.cell? ⟨w.heap.size + 1, 4, none⟩ = some (.int .i64 tg) := HX13.out.cell 4
    have c5 : w3.cell? ⟨w.heap.size + 1, 5, none⟩ = some (.int .i64 run) := HX13.out.cell 5
    have c6 : w3.cell? ⟨w.heap.size + 1, 6, none⟩ = some (.int .i64 til) := HX13.out.cell 6
    have c7 : w3.cell? ⟨w.heap.size + 1, 7, none⟩ = some (.bool win) := HX13.out.cell 7
    have r0 : w3.cell? ⟨w2.heap.size, 0, none⟩ = some (.int .i64 rid) := HLr3.out.cell 0
    have r1 : w3.cell? ⟨w2.heap.size, 1, none⟩ = some (.int .i64 rop) := HLr3.out.cell 1
    have r2 : w3.cell? ⟨w2.heap.size, 2, none⟩ = some (.int .i64 rfr) := HLr3.out.cell 2
    have r3 : w3.cell? ⟨w2.heap.size, 3, none⟩ = some (.int .i64 rtt) := HLr3.out.cell 3
    have r4 : w3.cell? ⟨w2.heap.size, 4, none⟩ = some (.int .i64 rgr) := HLr3.out.cell 4
    have r5 : w3.cell? ⟨w2.heap.size, 5, none⟩ = some (.int .i64 rzn) := HLr3.out.cell 5
    have r6 : w3.cell? ⟨w2.heap.size, 6, none⟩ = some (.int .i64 rln) := HLr3.out.cell 6
    by_cases d2p : st = 2
    · have d2 : (st == 2) = true := beq_iff_eq.2 d2p
      cases rb with
      | true =>
        go_upto_region 6 with (refine wpList_store_field 3 (.tmp 28) (.tmp 27) rfl rfl (w.heap.size + 1) 1 (.int .i64 rtt) rfl rfl _ _ HX13.out (by kernel_rfl) (by simp) rfl rfl ?_
                               intro w4 hx4 hon4
                               have HX14 : Hid (Blk w4 (w.heap.size + 1) 51 #[.int .i64 id, .int .i64 rtt, .int .i64 fuel, .int .i64 st, .int .i64 tg, .int .i64 run, .int .i64 til, .bool win]) := hide hx4
                               have HX24 := Lib.hid (hon4.blk HX23.out hS2)
                               have HW4 := Lib.hid (hon4.below HW3.out (Nat.le_succ _))
                               clear hx4 hon4)
        have HE : Hid (rtt = nn) := hide (by have h := HN2.out; simpa [d1p, d2p] using h)
        go_wp2_with
          (first
           | (refine wpList_store_field 3 (.tmp 29) (.const (.int .i64 0)) rfl rfl (w.heap.size + 1) 3 (.int .i64 0) rfl rfl _ _ HX14.out (by kernel_rfl) (by simp) rfl rfl ?_
              intro w5 hx5 hon5
              have HX15 : Hid (Blk w5 (w.heap.size + 1) 51 #[.int .i64 id, .int .i64 rtt, .int .i64 fuel, .int .i64 0, .int .i64 tg, .int .i64 run, .int .i64 til, .bool win]) := hide hx5
              have HX25 := Lib.hid (hon5.blk HX24.out hS2)
              have HW5 := Lib.hid (hon5.below HW4.out (Nat.le_succ _))
              clear hx5 hon5)
           | (refine wpList_store_field 3 (.tmp 30) (.const (.int .i64 0)) rfl rfl (w.heap.size + 1) 4 (.int .i64 0) rfl rfl _ _ HX15.out (by kernel_rfl) (by simp) rfl rfl ?_
              intro w6 hx6 hon6
              have HX16 : Hid (Blk w6 (w.heap.size + 1) 51 #[.int .i64 id, .int .i64 rtt, .int .i64 fuel, .int .i64 0, .int .i64 0, .int .i64 run, .int .i64 til, .bool win]) := hide hx6
              have HX26 := Lib.hid (hon6.blk HX25.out hS2)
              have HW6 := Lib.hid (hon6.below HW5.out (Nat.le_succ _))
              clear hx6 hon6)
           | (refine wpList_store_field 3 (.tmp 31) (.const (.int .i64 0)) rfl rfl (w.heap.size + 1) 5 (.int .i64 0) rfl rfl _ _ HX16.out (by kernel_rfl) (by simp) rfl rfl ?_
              intro w7 hx7 hon7
              have HX17 : Hid (Blk w7 (w.heap.size + 1) 51 #[.int .i64 id, .int .i64 rtt, .int .i64 fuel, .int .i64 0, .int .i64 0, .int .i64 0, .int .i64 til, .bool win]) := hide hx7
              have HX27 := Lib.hid (hon7.blk HX26.out hS2)
              have HW7 := Lib.hid (hon7.below HW6.out (Nat.le_succ _))
              clear hx7 hon7)
           | (refine wpList_load_g 51 (.tmp 3) rfl rfl (w.heap.size + 1) rfl _ _ HX17.out _ Try.underlying51 rfl (by kernel_rfl) ?_)
           | (refine wpList_store_blk rfl 51 (.tmp 4) (.tmp 32) rfl (w.heap.size + 1 + 1) #[.int .i64 id, .int .i64 rtt, .int .i64 fuel, .int .i64 0, .int .i64 0, .int .i64 0, .int .i64 til, .bool win] rfl rfl _ _ HX27.out (by kernel_rfl) rfl (by simp [Value.oneCell']) ?_
              intro w8 hx8 hon8
              have HX8 := Lib.hid hx8
              have HW8 := Lib.hid (hon8.below HW7.out (by omega))
              clear hx8 hon8))
        refine bodyPost_ret (results_cell_row rfl _ _ (w.heap.size + 1 + 1) 51 _ (0, 0) _ rfl HX8.out Try.underlying51 rfl (by kernel_rfl)) rfl ?_
        exact ⟨by rw [HE.out], HW8.out⟩
      | false =>
        have HE : Hid (nod = nn) := hide (by have h := HN2.out; simpa [d1p, d2p] using h)
        go_wp2_with
          (first
           | (refine wpList_store_field 3 (.tmp 29) (.const (.int .i64 0)) rfl rfl (w.heap.size + 1) 3 (.int .i64 0) rfl rfl _ _ HX13.out (by kernel_rfl) (by simp) rfl rfl ?_
              intro w5 hx5 hon5
              have HX15 : Hid (Blk w5 (w.heap.size + 1) 51 #[.int .i64 id, .int .i64 nod, .int .i64 fuel, .int .i64 0, .int .i64 tg, .int .i64 run, .int .i64 til, .bool win]) := hide hx5
              have HX25 := Lib.hid (hon5.blk HX23.out hS2)
              have HW5 := Lib.hid (hon5.below HW3.out (Nat.le_succ _))
              clear hx5 hon5)
           | (refine wpList_store_field 3 (.tmp 30) (.const (.int .i64 0)) rfl rfl (w.heap.size + 1) 4 (.int .i64 0) rfl rfl _ _ HX15.out (by kernel_rfl) (by simp) rfl rfl ?_
              intro w6 hx6 hon6
              have HX16 : Hid (Blk w6 (w.heap.size + 1) 51 #[.int .i64 id, .int .i64 nod, .int .i64 fuel, .int .i64 0, .int .i64 0, .int .i64 run, .int .i64 til, .bool win]) := hide hx6
              have HX26 := Lib.hid (hon6.blk HX25.out hS2)
              have HW6 := Lib.hid (hon6.below HW5.out (Nat.le_succ _))
              clear hx6 hon6)
           | (refine wpList_store_field 3 (.tmp 31) (.const (.int .i64 0)) rfl rfl (w.heap.size + 1) 5 (.int .i64 0) rfl rfl _ _ HX16.out (by kernel_rfl) (by simp) rfl rfl ?_
              intro w7 hx7 hon7
              have HX17 : Hid (Blk w7 (w.heap.size + 1) 51 #[.int .i64 id, .int .i64 nod, .int .i64 fuel, .int .i64 0, .int .i64 0, .int .i64 0, .int .i64 til, .bool win]) := hide hx7
              have HX27 := Lib.hid (hon7.blk HX26.out hS2)
              have HW7 := Lib.hid (hon7.below HW6.out (Nat.le_succ _))
              clear hx7 hon7)
           | (refine wpList_load_g 51 (.tmp 3) rfl rfl (w.heap.size + 1) rfl _ _ HX17.out _ Try.underlying51 rfl (by kernel_rfl) ?_)
           | (refine wpList_store_blk rfl 51 (.tmp 4) (.tmp 32) rfl (w.heap.size + 1 + 1) #[.int .i64 id, .int .i64 nod, .int .i64 fuel, .int .i64 0, .int .i64 0, .int .i64 0, .int .i64 til, .bool win] rfl rfl _ _ HX27.out (by kernel_rfl) rfl (by simp [Value.oneCell']) ?_
              intro w8 hx8 hon8
              have HX8 := Lib.hid hx8
              have HW8 := Lib.hid (hon8.below HW7.out (by omega))
              clear hx8 hon8))
        refine bodyPost_ret (results_cell_row rfl _ _ (w.heap.size + 1 + 1) 51 _ (0, 0) _ rfl HX8.out Try.underlying51 rfl (by kernel_rfl)) rfl ?_
        exact ⟨by rw [HE.out], HW8.out⟩
    · have d2 : (st == 2) = false := beq_eq_false_iff_ne.2 d2p
      have HE : Hid (nod = nn) := hide (by have h := HN2.out; simpa [d1p, d2p] using h)
      go_wp2_with
        (first
         | (refine wpList_store_field 3 (.tmp 29) (.const (.int .i64 0)) rfl rfl (w.heap.size + 1) 3 (.int .i64 0) rfl rfl _ _ HX13.out (by kernel_rfl) (by simp) rfl rfl ?_
            intro w5 hx5 hon5
            have HX15 : Hid (Blk w5 (w.heap.size + 1) 51 #[.int .i64 id, .int .i64 nod, .int .i64 fuel, .int .i64 0, .int .i64 tg, .int .i64 run, .int .i64 til, .bool win]) := hide hx5
            have HX25 := Lib.hid (hon5.blk HX23.out hS2)
            have HW5 := Lib.hid (hon5.below HW3.out (Nat.le_succ _))
            clear hx5 hon5)
         | (refine wpList_store_field 3 (.tmp 30) (.const (.int .i64 0)) rfl rfl (w.heap.size + 1) 4 (.int .i64 0) rfl rfl _ _ HX15.out (by kernel_rfl) (by simp) rfl rfl ?_
            intro w6 hx6 hon6
            have HX16 : Hid (Blk w6 (w.heap.size + 1) 51 #[.int .i64 id, .int .i64 nod, .int .i64 fuel, .int .i64 0, .int .i64 0, .int .i64 run, .int .i64 til, .bool win]) := hide hx6
            have HX26 := Lib.hid (hon6.blk HX25.out hS2)
            have HW6 := Lib.hid (hon6.below HW5.out (Nat.le_succ _))
            clear hx6 hon6)
         | (refine wpList_store_field 3 (.tmp 31) (.const (.int .i64 0)) rfl rfl (w.heap.size + 1) 5 (.int .i64 0) rfl rfl _ _ HX16.out (by kernel_rfl) (by simp) rfl rfl ?_
            intro w7 hx7 hon7
            have HX17 : Hid (Blk w7 (w.heap.size + 1) 51 #[.int .i64 id, .int .i64 nod, .int .i64 fuel, .int .i64 0, .int .i64 0, .int .i64 0, .int .i64 til, .bool win]) := hide hx7
            have HX27 := Lib.hid (hon7.blk HX26.out hS2)
            have HW7 := Lib.hid (hon7.below HW6.out (Nat.le_succ _))
            clear hx7 hon7)
         | (refine wpList_load_g 51 (.tmp 3) rfl rfl (w.heap.size + 1) rfl _ _ HX17.out _ Try.underlying51 rfl (by kernel_rfl) ?_)
         | (refine wpList_store_blk rfl 51 (.tmp 4) (.tmp 32) rfl (w.heap.size + 1 + 1) #[.int .i64 id, .int .i64 nod, .int .i64 fuel, .int .i64 0, .int .i64 0, .int .i64 0, .int .i64 til, .bool win] rfl rfl _ _ HX27.out (by kernel_rfl) rfl (by simp [Value.oneCell']) ?_
            intro w8 hx8 hon8
            have HX8 := Lib.hid hx8
            have HW8 := Lib.hid (hon8.below HW7.out (by omega))
            clear hx8 hon8))
      refine bodyPost_ret (results_cell_row rfl _ _ (w.heap.size + 1 + 1) 51 _ (0, 0) _ rfl HX8.out Try.underlying51 rfl (by kernel_rfl)) rfl ?_
      exact ⟨by rw [HE.out], HW8.out⟩
set_option maxRecDepth 100000 in
set_option maxHeartbeats 8000000 in
theorem rgtick_any (vn vl vr vb : Value) (rs : List Rn) (v : Value) (l : List Gr) (t : Int) (w : World) (hr : StrV Rn.cells 7 w w.heap.size vr rs) (hv : GrV w w.heap.size v l) (hlen : l.length ≤ 16) :
    Calls Try.prog 24 #[.agg #[vn, vl, vr, vb], v, .int .i64 t] w (TkR rs t l w) := by
  obtain ⟨A, n, c, rfl, HN, h3, h4, hr'⟩ := hv.nam
  have HR := Lib.hid hr'
  have HRs := Lib.hid hr
  have hn16 : n ≤ 16 := by rw [← HN.out]; exact hlen
  have hlen2 : l.length ≤ 16 := hlen
  have HFin : Hid (∀ (v' f' : Value) (w' : World), OwnGr w' w.heap.size v' (tickG rs t l) → OwnI w' w.heap.size f' (doneG t l) → Below w.heap.size w w' → TkR rs t l w (.returned (.tuple #[v', f'])) w') := fun v' f' w' h1 h2 h3 => ⟨v', f', rfl, h1, h2, h3⟩
  generalize TkR rs t l w = RR at *
  clear hr hv hr' hlen
  go_enter Try.func24, Try.ntmps24
  go_wp2_with fail
  have HBwb := (Blk.new w 32 #[vn, vl, vr, vb])
  have HLwb := (below_new w (.cells #[vn, vl, vr, vb] 32))
  have hswb : (w.alloc (.cells #[vn, vl, vr, vb] 32)).heap.size = w.heap.size + 1 := by simp
  generalize w.alloc (.cells #[vn, vl, vr, vb] 32) = wb at HBwb HLwb hswb ⊢
  replace HBwb := Lib.hid HBwb
  replace HLwb := Lib.hid HLwb
  have hlwb : w.heap.size < wb.heap.size := by omega
  replace hswb := Lib.hid hswb
  have HWb := Lib.hid (HLwb.out)
  have hl0 : w.heap.size ≤ wb.heap.size := HWb.out.size
  have HBb : Hid (Below wb.heap.size wb wb) := hide (Below.refl _ _)
  have hszb : wb.heap.size ≤ wb.heap.size := Nat.le_refl _
  have HX0b : Hid (Blk wb w.heap.size 32 #[vn, vl, vr, vb]) := hide HBwb.out
  have hxx0 : w.heap.size < wb.heap.size := HX0b.out.lt
  clear HBwb HLwb hswb hlwb
  go_loopw [8, 9, 10] (fun out fin i wr => ∃ k : Nat, k ≤ n ∧ i = .int .i64 k ∧ OwnGr wr wb.heap.size out (tickG rs t (l.take k)) ∧ OwnI wr wb.heap.size fin (doneG t (l.take k)) ∧ Below wb.heap.size wb wr) (fun _ _ i _ => n - (intOf i).toNat)
  case atStart => exact ⟨0, by omega, rfl, OwnT.nil _ _ _ _ _, OwnI.nil _ _, Below.refl _ _⟩
  case round =>
    obtain ⟨k, hk, rfl, hO, hF, hbr⟩ := hrel
    obtain ⟨Av, nv, cv, rfl, HLv, hv1, hv2, _⟩ := hO.nam
    obtain ⟨Af, nf, cf, rfl, HLf, hf1, hf2, _⟩ := hF.nam
    have hnv : nv ≤ 16 := by have h := HLv.out; unfold tickG at h; simp at h; omega
    have hnf : nf ≤ 16 := by have h := HLf.out; have h2 := doneG_len t (l.take k); simp at h2; omega
    have HOr := Lib.hid (hO.row HLv.out)
    have HFr := Lib.hid (hF.row HLf.out)
    clear hO hF
    obtain ⟨wo, rfl⟩ : ∃ wo : World, wo = wr := ⟨_, rfl⟩
    have HBo := Lib.hid (HBb.out.trans (hbr.mono hszb))
    have HWo := Lib.hid (HWb.out.trans (hbr.mono HWb.out.size))
    have hszo : wb.heap.size ≤ wo.heap.size := Nat.le_trans hszb hbr.size
    have HX0o := Lib.hid (HX0b.out.below hbr (Nat.lt_of_lt_of_le hxx0 hszb))
    clear hbr
    have hxo : w.heap.size < wo.heap.size := HX0o.out.lt
    by_cases hlt : k < n
    · have hkl : k < l.length := by rw [HN.out]; exact hlt
      obtain ⟨ad, rfl, hab, hcl⟩ := strs_at (HR.out.below HWo.out) (fun _ => rfl) HN.out hlt gr0
      have HT1 := Lib.hid (tickG_snoc rs t hkl)
      have HD1 := Lib.hid (doneG_snoc t hkl)
      generalize l.getD k gr0 = q at *
      obtain ⟨id, nod, fuel, st, tg, run, til, win⟩ := q
      simp only at HD1
      have HCl : Hid (∀ j u, ([.int .i64 id, .int .i64 nod, .int .i64 fuel, .int .i64 st, .int .i64 tg, .int .i64 run, .int .i64 til, .bool win] : List Value)[j]? = some u → wo.cell? ((ad.add (k * 8)).add j) = some u) := hcl
      clear hcl
      go_upto_region 7 with (refine wpList_load_at 51 (.tmp 20) rfl rfl (ad.add (k * 8)) rfl [.int .i64 id, .int .i64 nod, .int .i64 fuel, .int .i64 st, .int .i64 tg, .int .i64 run, .int .i64 til, .bool win] HCl.out _ Try.underlying51 rfl (by kernel_rfl) ?_)
      have HBw1 := (Blk.new wo 51 #[.int .i64 id, .int .i64 nod, .int .i64 fuel, .int .i64 st, .int .i64 tg, .int .i64 run, .int .i64 til, .bool win])
      have HLw1 := (below_new wo (.cells #[.int .i64 id, .int .i64 nod, .int .i64 fuel, .int .i64 st, .int .i64 tg, .int .i64 run, .int .i64 til, .bool win] 51))
      have hsw1 : (wo.alloc (.cells #[.int .i64 id, .int .i64 nod, .int .i64 fuel, .int .i64 st, .int .i64 tg, .int .i64 run, .int .i64 til, .bool win] 51)).heap.size = wo.heap.size + 1 := by simp
      generalize wo.alloc (.cells #[.int .i64 id, .int .i64 nod, .int .i64 fuel, .int .i64 st, .int .i64 tg, .int .i64 run, .int .i64 til, .bool win] 51) = w1 at HBw1 HLw1 hsw1 ⊢
      replace HBw1 := Lib.hid HBw1
      replace HLw1 := Lib.hid HLw1
      have hlw1 : wo.heap.size < w1.heap.size := by omega
      replace hsw1 := Lib.hid hsw1
      have hb1 := HLw1.out
      have HLg1 := HBw1
      clear HBw1 HLw1 hsw1 hlw1 HCl
      have HO1 := Lib.hid (own_below HOr.out hb1 (Nat.le_refl _))
      have HF1 := Lib.hid (own_below HFr.out hb1 (Nat.le_refl _))
      have HB1 := Lib.hid (HBo.out.trans (hb1.mono hszo))
      have HW1 := Lib.hid (HWo.out.trans (hb1.mono HWo.out.size))
      have hsz1 : wb.heap.size ≤ w1.heap.size := Nat.le_trans hszo hb1.size
      have HX01 := Lib.hid (HX0o.out.below hb1 (Nat.lt_of_lt_of_le hxx0 hszo))
      clear hb1
      have hsl : wb.heap.size ≤ w1.heap.size := hsz1
      have c0 : w1.cell? ⟨wo.heap.size, 0, none⟩ = some (.int .i64 id) := HLg1.out.cell 0
      have c1 : w1.cell? ⟨wo.heap.size, 1, none⟩ = some (.int .i64 nod) := HLg1.out.cell 1
      have c2 : w1.cell? ⟨wo.heap.size, 2, none⟩ = some (.int .i64 fuel) := HLg1.out.cell 2
      have c3 : w1.cell? ⟨wo.heap.size, 3, none⟩ = some (.int .i64 st) := HLg1.out.cell 3
      have c4 : w1.cell? ⟨wo.heap.size, 4, none⟩ = some (.int .i64 tg) := HLg1.out.cell 4
      have c5 : w1.cell? ⟨wo.heap.size, 5, none⟩ = some (.int .i64 run) := HLg1.out.cell 5
      have c6 : w1.cell? ⟨wo.heap.size, 6, none⟩ = some (.int .i64 til) := HLg1.out.cell 6
      have c7 : w1.cell? ⟨wo.heap.size, 7, none⟩ = some (.bool win) := HLg1.out.cell 7
      generalize hTk : tickG rs t (l.take k) = TK at *
      generalize hDk : doneG t (l.take k) = DK at *
      clear hTk hDk
      by_cases ht : t < til
      · have d0 : decide (til > t) = true := decide_eq_true ht
        have HT2 : Hid (tickG rs t (l.take (k + 1)) = TK ++ [⟨id, nod, fuel, st, tg, run, til, win⟩]) := hide (by rw [HT1.out]; unfold tickX; rw [if_pos ht])
        have HD2 : Hid (doneG t (l.take (k + 1)) = DK) := hide (by rw [HD1.out, if_neg (by omega), List.append_nil])
        go_wp2_with
          (first
           | (refine wpList_load_g 51 (.tmp 11) rfl rfl wo.heap.size rfl _ _ HLg1.out _ Try.underlying51 rfl (by kernel_rfl) ?_)
           | (at_builtin
              refine wpList_app_lit ei_gr rfl (.tmp 26) (.tmp 28) rfl wb.heap.size (.slice Av nv cv) nv (TK.map Gr.cells).flatten rfl HO1.out 1 rfl rfl (by simp [Value.oneCell']) (by simp only [maxLen]; omega) (by omega) hsl ?_
              intro v2 w2 hown2 hbx2 hgx2 hat2
              have HO2 : Hid (OwnGr w2 wb.heap.size v2 (tickG rs t (l.take (k + 1)))) := hide (by rw [HT2.out]; exact OwnT.snoc hown2 (by rw [HLv.out]) rfl)
              have HF2 : Hid (OwnI w2 wb.heap.size (.slice Af nf cf) (doneG t (l.take (k + 1)))) := hide (by rw [HD2.out]; exact OwnI.mk' (HF1.out.kept (grown_alloc' hgx2) (own_rows HO1.out HF1.out (by decide))) HLf.out.symm rfl)
              have HB2 := Lib.hid (HB1.out.trans hbx2)
              obtain ⟨A2, n2, c2, rfl, _, _, _, _⟩ := HO2.out.nam
              clear hown2 hbx2 hgx2 hat2))
        go_roundw
        case rel => exact ⟨k + 1, by omega, by go_num, HO2.out, HF2.out, HB2.out⟩
        case measure => simp [intOf]; omega
      · have d0 : decide (til > t) = false := decide_eq_false ht
        obtain ⟨nn, hnn⟩ : ∃ x, (endedG rs ⟨id, nod, fuel, st, tg, run, til, win⟩).nod = x := ⟨_, rfl⟩
        have HNn := Lib.hid hnn
        have HT2 : Hid (tickG rs t (l.take (k + 1)) = TK ++ [⟨id, nn, fuel, 0, 0, 0, til, win⟩]) := hide (by rw [HT1.out]; unfold tickX; rw [if_neg ht, ← hnn]; rfl)
        clear hnn
        by_cases hs2 : st = 2
        · subst hs2
          have HD2 : Hid (doneG t (l.take (k + 1)) = DK ++ [run]) := hide (by rw [HD1.out, if_pos ⟨by omega, rfl⟩])
          go_upto_region 11 with (first
            | (at_builtin
               refine wpList_app_lit ei_ints rfl (.tmp 33) (.tmp 36) rfl wb.heap.size (.slice Af nf cf) nf (DK.map (Value.int .i64)) rfl HF1.out 1 rfl rfl (by simp [Value.oneCell']) (by simp only [maxLen]; omega) (by omega) hsl ?_
               intro v3 w3 hown3 hbx3 hgx3 hat3
               have HF3' := Lib.hid (OwnI.snoc hown3 (by rw [HLf.out]) rfl)
               have HO3 := Lib.hid (HO1.out.kept (grown_alloc' hgx3) (own_rows HF1.out HO1.out (by decide)))
               have HLg3 := Lib.hid (HLg1.out.grown (grown_alloc' hgx3) (Ne.symm (row_blk HF1.out HLg1.out (by decide))))
               have HX03 := Lib.hid (HX01.out.grown (grown_alloc' hgx3) (Ne.symm (row_blk HF1.out HX01.out (by decide))))
               have HB3 := Lib.hid (HB1.out.trans hbx3)
               obtain ⟨A3, n3, c3, rfl, HL3, _, _, _⟩ := HF3'.out.nam
               clear hown3 hbx3 hgx3 hat3))
          have HF3 := Lib.hid (HF3'.out.row HL3.out)
          clear hsl
          go_wp2_with
            (first
             | (refine wpList_load_g 32 (.tmp 3) rfl rfl w.heap.size rfl _ _ HX03.out _ Try.underlying32 rfl (by kernel_rfl) ?_)
             | (refine wpList_load_g 51 (.tmp 11) rfl rfl wo.heap.size rfl _ _ HLg3.out _ Try.underlying51 rfl (by kernel_rfl) ?_))
          with_reducible refine (rended_any _ _ _ _ rs _ _ _ _ _ _ _ _ nn w3 (HRs.out.now (HWb.out.trans (HB3.out.mono hl0))) HNn.out).mono ?_
          rintro e w4 ⟨rfl, hb4⟩
          have HO4 := Lib.hid (own_below HO3.out hb4 (Nat.le_refl _))
          have HF4 := Lib.hid (own_below HF3.out hb4 (Nat.le_refl _))
          have HB4 := Lib.hid (HB3.out.trans (hb4.mono HB3.out.size))
          have hsl : wb.heap.size ≤ w4.heap.size := HB4.out.size
          clear hb4
          go_wp2_with
            (first
             | (at_builtin
                refine wpList_app_lit ei_gr rfl (.tmp 38) (.tmp 42) rfl wb.heap.size (.slice Av nv cv) nv (TK.map Gr.cells).flatten rfl HO4.out 1 rfl rfl (by simp [Value.oneCell']) (by simp only [maxLen]; omega) (by omega) hsl ?_
                intro v5 w5 hown5 hbx5 hgx5 hat5
                have HO5 : Hid (OwnGr w5 wb.heap.size v5 (tickG rs t (l.take (k + 1)))) := hide (by rw [HT2.out]; exact OwnT.snoc hown5 (by rw [HLv.out]) rfl)
                have HF5 : Hid (OwnI w5 wb.heap.size (.slice A3 n3 c3) (doneG t (l.take (k + 1)))) := hide (by rw [HD2.out]; exact OwnI.mk' (HF4.out.kept (grown_alloc' hgx5) (own_rows HO4.out HF4.out (by decide))) HL3.out.symm rfl)
                have HB5 := Lib.hid (HB4.out.trans hbx5)
                obtain ⟨A5, n5, c5, rfl, _, _, _, _⟩ := HO5.out.nam
                clear hown5 hbx5 hgx5 hat5))
          go_roundw
          case rel => exact ⟨k + 1, by omega, by go_num, HO5.out, HF5.out, HB5.out⟩
          case measure => simp [intOf]; omega
        · have d2 : (st == 2) = false := beq_eq_false_iff_ne.2 hs2
          have HD2 : Hid (doneG t (l.take (k + 1)) = DK) := hide (by rw [HD1.out, if_neg (fun h => hs2 h.2), List.append_nil])
          clear hsl
          go_wp2_with
            (first
             | (refine wpList_load_g 32 (.tmp 3) rfl rfl w.heap.size rfl _ _ HX01.out _ Try.underlying32 rfl (by kernel_rfl) ?_)
             | (refine wpList_load_g 51 (.tmp 11) rfl rfl wo.heap.size rfl _ _ HLg1.out _ Try.underlying51 rfl (by kernel_rfl) ?_))
          with_reducible refine (rended_any _ _ _ _ rs _ _ _ _ _ _ _ _ nn w1 (HRs.out.now (HWb.out.trans (HB1.out.mono hl0))) HNn.out).mono ?_
          rintro e w4 ⟨rfl, hb4⟩
          have HO4 := Lib.hid (own_below HO1.out hb4 (Nat.le_refl _))
          have HF4 := Lib.hid (own_below HF1.out hb4 (Nat.le_refl _))
          have HB4 := Lib.hid (HB1.out.trans (hb4.mono HB1.out.size))
          have hsl : wb.heap.size ≤ w4.heap.size := HB4.out.size
          clear hb4
          go_wp2_with
            (first
             | (at_builtin
                refine wpList_app_lit ei_gr rfl (.tmp 38) (.tmp 42) rfl wb.heap.size (.slice Av nv cv) nv (TK.map Gr.cells).flatten rfl HO4.out 1 rfl rfl (by simp [Value.oneCell']) (by simp only [maxLen]; omega) (by omega) hsl ?_
                intro v5 w5 hown5 hbx5 hgx5 hat5
                have HO5 : Hid (OwnGr w5 wb.heap.size v5 (tickG rs t (l.take (k + 1)))) := hide (by rw [HT2.out]; exact OwnT.snoc hown5 (by rw [HLv.out]) rfl)
                have HF5 : Hid (OwnI w5 wb.heap.size (.slice Af nf cf) (doneG t (l.take (k + 1)))) := hide (by rw [HD2.out]; exact OwnI.mk' (HF4.out.kept (grown_alloc' hgx5) (own_rows HO4.out HF4.out (by decide))) HLf.out.symm rfl)
                have HB5 := Lib.hid (HB4.out.trans hbx5)
                obtain ⟨A5, n5, c5, rfl, _, _, _, _⟩ := HO5.out.nam
                clear hown5 hbx5 hgx5 hat5))
          go_roundw
          case rel => exact ⟨k + 1, by omega, by go_num, HO5.out, HF5.out, HB5.out⟩
          case measure => simp [intOf]; omega
    · obtain rfl : k = n := by omega
      have HO9 : Hid (OwnGr wo w.heap.size (.slice Av nv cv) (tickG rs t l)) := hide (by have h := OwnT.mk' HOr.out HLv.out; rw [List.take_of_length_le (by rw [HN.out]; exact Nat.le_refl _)] at h; exact h.mono hl0)
      have HF9 : Hid (OwnI wo w.heap.size (.slice Af nf cf) (doneG t l)) := hide (by have h := OwnI.mk' HFr.out HLf.out.symm rfl; rw [List.take_of_length_le (by rw [HN.out]; exact Nat.le_refl _)] at h; exact h.mono hl0)
      go_wp2_with fail
      try go_ret2
      exact HFin.out _ _ _ HO9.out HF9.out HWo.out
set_option maxRecDepth 100000 in
set_option maxHeartbeats 8000000 in
theorem gtick_any (vn vl vr vb : Value) (rs : List Rn) (v : Value) (l : List Gr) (t : Int) (w : World) (hr : StrV Rn.cells 7 w w.heap.size vr rs) (hv : GrV w w.heap.size v l) (hlen : l.length ≤ 16) :
    Calls Try.prog 23 #[.agg #[vn, vl, vr, vb], v, .int .i64 t] w (TkR rs t l w) := by
  obtain ⟨A, n, c, rfl, HN, h3, h4, hr'⟩ := hv.nam
  have HR := Lib.hid hr'
  have HRs := Lib.hid hr
  have hn16 : n ≤ 16 := by rw [← HN.out]; exact hlen
  have hlen2 : l.length ≤ 16 := hlen
  have HFin : Hid (∀ (v' f' : Value) (w' : World), OwnGr w' w.heap.size v' (tickG rs t l) → OwnI w' w.heap.size f' (doneG t l) → Below w.heap.size w w' → TkR rs t l w (.returned (.tuple #[v', f'])) w') := fun v' f' w' h1 h2 h3 => ⟨v', f', rfl, h1, h2, h3⟩
  generalize TkR rs t l w = RR at *
  clear hr hv hr' hlen
  go_enter Try.func23, Try.ntmps23
  go_wp2_with fail
  have HBwb := (Blk.new w 32 #[vn, vl, vr, vb])
  have HLwb := (below_new w (.cells #[vn, vl, vr, vb] 32))
  have hswb : (w.alloc (.cells #[vn, vl, vr, vb] 32)).heap.size = w.heap.size + 1 := by simp
  generalize w.alloc (.cells #[vn, vl, vr, vb] 32) = wb at HBwb HLwb hswb ⊢
  replace HBwb := Lib.hid HBwb
  replace HLwb := Lib.hid HLwb
  have hlwb : w.heap.size < wb.heap.size := by omega
  replace hswb := Lib.hid hswb
  have HWb := Lib.hid (HLwb.out)
  have hl0 : w.heap.size ≤ wb.heap.size := HWb.out.size
  have HBb : Hid (Below wb.heap.size wb wb) := hide (Below.refl _ _)
  have hszb : wb.heap.size ≤ wb.heap.size := Nat.le_refl _
  have HX0b : Hid (Blk wb w.heap.size 32 #[vn, vl, vr, vb]) := hide HBwb.out
  have hxx0 : w.heap.size < wb.heap.size := HX0b.out.lt
  clear HBwb HLwb hswb hlwb
  with_reducible refine (gclone_any A n c l wb wb.heap.size (HR.out.now HWb.out) HN.out h3 h4 (by omega) (Nat.le_refl _)).mono ?_
  rintro e wc ⟨vc, rfl, hOc, hbc⟩
  obtain ⟨A0, n0, cp0, rfl, HN0, h5, h6, _⟩ := hOc.nam
  obtain rfl : n = n0 := by rw [← HN0.out, HN.out]
  have HOc := Lib.hid hOc
  unfold maxLen at h6
  clear hOc
  have HBc := Lib.hid (HBb.out.trans (hbc.mono hszb))
  have HWc := Lib.hid (HWb.out.trans (hbc.mono HWb.out.size))
  have hszc : wb.heap.size ≤ wc.heap.size := Nat.le_trans hszb hbc.size
  have HX0c := Lib.hid (HX0b.out.below hbc (Nat.lt_of_lt_of_le hxx0 hszb))
  clear hbc
  go_wp2_with fail
  go_loopw [9, 18] (fun fin i wr => ∃ k : Nat, k ≤ n ∧ i = .int .i64 k ∧ OwnGr wr wb.heap.size (.slice A0 n cp0) (tkL rs t l k) ∧ OwnI wr wb.heap.size fin (doneG t (l.take k)) ∧ Below wb.heap.size wb wr) (fun _ i _ => n - (intOf i).toNat)
  case atStart => exact ⟨0, by omega, rfl, by rw [tkL_zero]; exact HOc.out, OwnI.nil _ _, HBc.out⟩
  case round =>
    obtain ⟨k, hk, rfl, hO, hF, hbr⟩ := hrel
    obtain ⟨Af, nf, cf, rfl, HLf, hf1, hf2, _⟩ := hF.nam
    have hnf : nf ≤ 16 := by have h := HLf.out; have h2 := doneG_len t (l.take k); simp at h2; omega
    have HKl : Hid ((tkL rs t l k).length = n) := hide (by rw [tkL_len]; exact HN.out)
    have HOo := Lib.hid hO
    have HFr := Lib.hid (hF.row HLf.out)
    clear hO hF
    obtain ⟨wo, rfl⟩ : ∃ wo : World, wo = wr := ⟨_, rfl⟩
    have HBo := Lib.hid (HBb.out.trans (hbr.mono hszb))
    have HWo := Lib.hid (HWb.out.trans (hbr.mono HWb.out.size))
    have hszo : wb.heap.size ≤ wo.heap.size := Nat.le_trans hszb hbr.size
    have HX0o := Lib.hid (HX0b.out.below hbr (Nat.lt_of_lt_of_le hxx0 hszb))
    clear hbr
    have hxo : w.heap.size < wo.heap.size := HX0o.out.lt
    by_cases hlt : k < n
    · have hkl : k < l.length := by rw [HN.out]; exact hlt
      obtain ⟨A1, c1, e1, _, _, hst⟩ := HOo.out.strV
      rw [HKl.out] at hst e1
      injection e1 with e1 _ e2
      subst e1 e2
      obtain ⟨ad, rfl, hab, hcl⟩ := strs_at hst (fun _ => rfl) HKl.out hlt gr0
      rw [tkL_at rs t hkl] at hcl
      have hlo := (own_gt HOo.out HKl.out hlt).1
      have HT1 := Lib.hid (tkL_step rs t hkl)
      have HT0 := Lib.hid (tkL_same rs t hkl)
      have HD1 := Lib.hid (doneG_snoc t hkl)
      generalize l.getD k gr0 = q at *
      obtain ⟨id, nod, fuel, st, tg, run, til, win⟩ := q
      simp only at HD1
      clear hst
      have hOg : (Value.slice (some ad) n cp0).ownBlock ≠ some wo.heap.size := fun e => by have e2 : ad.block = wo.heap.size := Option.some.inj e; omega
      have HCl : Hid (∀ j u, ([.int .i64 id, .int .i64 nod, .int .i64 fuel, .int .i64 st, .int .i64 tg, .int .i64 run, .int .i64 til, .bool win] : List Value)[j]? = some u → wo.cell? ((ad.add (k * 8)).add j) = some u) := hcl
      clear hcl
      go_upto_region 6 with (refine wpList_load_at 51 (.tmp 21) rfl rfl (ad.add (k * 8)) rfl [.int .i64 id, .int .i64 nod, .int .i64 fuel, .int .i64 st, .int .i64 tg, .int .i64 run, .int .i64 til, .bool win] HCl.out _ Try.underlying51 rfl (by kernel_rfl) ?_)
      have HBw1 := (Blk.new wo 51 #[.int .i64 id, .int .i64 nod, .int .i64 fuel, .int .i64 st, .int .i64 tg, .int .i64 run, .int .i64 til, .bool win])
      have HLw1 := (below_new wo (.cells #[.int .i64 id, .int .i64 nod, .int .i64 fuel, .int .i64 st, .int .i64 tg, .int .i64 run, .int .i64 til, .bool win] 51))
      have hsw1 : (wo.alloc (.cells #[.int .i64 id, .int .i64 nod, .int .i64 fuel, .int .i64 st, .int .i64 tg, .int .i64 run, .int .i64 til, .bool win] 51)).heap.size = wo.heap.size + 1 := by simp
      generalize wo.alloc (.cells #[.int .i64 id, .int .i64 nod, .int .i64 fuel, .int .i64 st, .int .i64 tg, .int .i64 run, .int .i64 til, .bool win] 51) = w1 at HBw1 HLw1 hsw1 ⊢
      replace HBw1 := Lib.hid HBw1
      replace HLw1 := Lib.hid HLw1
      have hlw1 : wo.heap.size < w1.heap.size := by omega
      replace hsw1 := Lib.hid hsw1
      have hb1 := HLw1.out
      have HLg1 := HBw1
      clear HBw1 HLw1 hsw1 hlw1 HCl
      have HO1 := Lib.hid (own_below (HOo.out.row HKl.out) hb1 (Nat.le_refl _))
      have HF1 := Lib.hid (own_below HFr.out hb1 (Nat.le_refl _))
      have HB1 := Lib.hid (HBo.out.trans (hb1.mono hszo))
      have HW1 := Lib.hid (HWo.out.trans (hb1.mono HWo.out.size))
      have hsz1 : wb.heap.size ≤ w1.heap.size := Nat.le_trans hszo hb1.size
      have HX01 := Lib.hid (HX0o.out.below hb1 (Nat.lt_of_lt_of_le hxx0 hszo))
      clear hb1
      have c0 : w1.cell? ⟨wo.heap.size, 0, none⟩ = some (.int .i64 id) := HLg1.out.cell 0
      have c1 : w1.cell? ⟨wo.heap.size, 1, none⟩ = some (.int .i64 nod) := HLg1.out.cell 1
      have c2 : w1.cell? ⟨wo.heap.size, 2, none⟩ = some (.int .i64 fuel) := HLg1.out.cell 2
      have c3 : w1.cell? ⟨wo.heap.size, 3, none⟩ = some (.int .i64 st) := HLg1.out.cell 3
      have c4 : w1.cell? ⟨wo.heap.size, 4, none⟩ = some (.int .i64 tg) := HLg1.out.cell 4
      have c5 : w1.cell? ⟨wo.heap.size, 5, none⟩ = some (.int .i64 run) := HLg1.out.cell 5
      have c6 : w1.cell? ⟨wo.heap.size, 6, none⟩ = some (.int .i64 til) := HLg1.out.cell 6
      have c7 : w1.cell? ⟨wo.heap.size, 7, none⟩ = some (.bool win) := HLg1.out.cell 7
      generalize hTk : tkL rs t l k = TK at *
      generalize hDk : doneG t (l.take k) = DK at *
      clear hTk hDk
      by_cases ht : t < til
      · have d0 : decide (til > t) = true := decide_eq_true ht
        have HT2 : Hid (tkL rs t l (k + 1) = TK) := hide (HT0.out (by unfold tickX; rw [if_pos ht]))
        have HD2 : Hid (doneG t (l.take (k + 1)) = DK) := hide (by rw [HD1.out, if_neg (by omega), List.append_nil])
        go_wp2_with fail
        go_roundw
        case rel => exact ⟨k + 1, by omega, by go_num, by rw [HT2.out]; exact OwnT.mk' HO1.out HKl.out, by rw [HD2.out]; exact OwnI.mk' HF1.out HLf.out.symm rfl, HB1.out⟩
        case measure => simp [intOf]; omega
      · have d0 : decide (til > t) = false := decide_eq_false ht
        have HTn : Hid (∀ nn, (if st = 1 then tg else if st = 2 ∧ hasR rs run = true then (rnOf rs run).tt else nod) = nn → TK.set k ⟨id, nn, fuel, 0, 0, 0, til, win⟩ = tkL rs t l (k + 1)) := fun nn h => by rw [← HT1.out, ← h]; unfold tickX; rw [if_neg ht]; rfl
        by_cases hs1 : st = 1
        · subst hs1
          have HD2 : Hid (doneG t (l.take (k + 1)) = DK) := hide (by rw [HD1.out, if_neg (fun h => by have := h.2; omega), List.append_nil])
          go_upto_region 15 with (first
            | (refine wpList_store_field 3 (.tmp 33) (.tmp 32) rfl rfl wo.heap.size 1 (.int .i64 tg) rfl rfl _ _ HLg1.out (by kernel_rfl) (by simp) rfl rfl ?_
               intro w2 hx2 hon2
               have HLg2 : Hid (Blk w2 wo.heap.size 51 #[.int .i64 id, .int .i64 tg, .int .i64 fuel, .int .i64 1, .int .i64 tg, .int .i64 run, .int .i64 til, .bool win]) := hide hx2
               have HB2 := Lib.hid (hon2.below HB1.out hszo)
               have HX02 := Lib.hid (hon2.blk HX01.out (Nat.ne_of_lt hxo))
               have HO2 := Lib.hid (hon2.own HO1.out hOg)
               have HF2 := Lib.hid (hon2.own HF1.out (row_blk HF1.out HLg1.out (by decide)))
               clear hx2 hon2))
          have HE : Hid (TK.set k ⟨id, tg, fuel, 0, 0, 0, til, win⟩ = tkL rs t l (k + 1)) := hide (HTn.out _ (if_pos rfl))
          go_upto_region 16 with (first
            | (refine wpList_store_field 3 (.tmp 52) (.const (.int .i64 0)) rfl rfl wo.heap.size 3 (.int .i64 0) rfl rfl _ _ HLg2.out (by kernel_rfl) (by simp) rfl rfl ?_
               intro w6 hx6 hon6
               have HLg6 : Hid (Blk w6 wo.heap.size 51 #[.int .i64 id, .int .i64 tg, .int .i64 fuel, .int .i64 0, .int .i64 tg, .int .i64 run, .int .i64 til, .bool win]) := hide hx6
               have HB6 := Lib.hid (hon6.below HB2.out hszo)
               have HX06 := Lib.hid (hon6.blk HX02.out (Nat.ne_of_lt hxo))
               have HO6 := Lib.hid (hon6.own HO2.out hOg)
               have HF6 := Lib.hid (hon6.own HF2.out (row_blk HF2.out HLg2.out (by decide)))
               clear hx6 hon6)
            | (refine wpList_store_field 3 (.tmp 53) (.const (.int .i64 0)) rfl rfl wo.heap.size 4 (.int .i64 0) rfl rfl _ _ HLg6.out (by kernel_rfl) (by simp) rfl rfl ?_
               intro w7 hx7 hon7
               have HLg7 : Hid (Blk w7 wo.heap.size 51 #[.int .i64 id, .int .i64 tg, .int .i64 fuel, .int .i64 0, .int .i64 0, .int .i64 run, .int .i64 til, .bool win]) := hide hx7
               have HB7 := Lib.hid (hon7.below HB6.out hszo)
               have HX07 := Lib.hid (hon7.blk HX06.out (Nat.ne_of_lt hxo))
               have HO7 := Lib.hid (hon7.own HO6.out hOg)
               have HF7 := Lib.hid (hon7.own HF6.out (row_blk HF6.out HLg6.out (by decide)))
               clear hx7 hon7)
            | (refine wpList_store_field 3 (.tmp 54) (.const (.int .i64 0)) rfl rfl wo.heap.size 5 (.int .i64 0) rfl rfl _ _ HLg7.out (by kernel_rfl) (by simp) rfl rfl ?_
               intro w8 hx8 hon8
               have HLg8 : Hid (Blk w8 wo.heap.size 51 #[.int .i64 id, .int .i64 tg, .int .i64 fuel, .int .i64 0, .int .i64 0, .int .i64 0, .int .i64 til, .bool win]) := hide hx8
               have HB8 := Lib.hid (hon8.below HB7.out hszo)
               have HX08 := Lib.hid (hon8.blk HX07.out (Nat.ne_of_lt hxo))
               have HO8 := Lib.hid (hon8.own HO7.out hOg)
               have HF8 := Lib.hid (hon8.own HF7.out (row_blk HF7.out HLg7.out (by decide)))
               clear hx8 hon8))
          have HP8 : Hid (OwnGr w8 wb.heap.size (.slice (some ad) n cp0) TK) := hide (OwnT.mk' HO8.out HKl.out)
          go_wp2_with
            (first
             | (refine wpList_load_g 51 (.tmp 11) rfl rfl wo.heap.size rfl _ _ HLg8.out _ Try.underlying51 rfl (by kernel_rfl) ?_)
             | (refine wpList_store_ownT 51 (.tmp 58) (.tmp 57) rfl rfl HP8.out HKl.out k hlt ⟨id, tg, fuel, 0, 0, 0, til, win⟩ _ rfl rfl rfl (fun _ => rfl) (by kernel_rfl) (one_gr _) ?_
                intro w9 hO9 hon9
                have HO9 : Hid (OwnGr w9 wb.heap.size (.slice (some ad) n cp0) (tkL rs t l (k + 1))) := hide (by rw [← HE.out]; exact hO9)
                have HB9 := Lib.hid (hon9.below HB8.out hlo)
                have HF9 : Hid (OwnI w9 wb.heap.size (.slice Af nf cf) (doneG t (l.take (k + 1)))) := hide (by rw [HD2.out]; exact OwnI.mk' (hon9.own HF8.out (own_ne2 HO8.out HF8.out (by decide))) HLf.out.symm rfl)
                clear hO9 hon9))
          go_roundw
          case rel => exact ⟨k + 1, by omega, by go_num, HO9.out, HF9.out, HB9.out⟩
          case measure => simp [intOf]; omega
        · have d1 : (st == 1) = false := beq_eq_false_iff_ne.2 hs1
          by_cases hs2 : st = 2
          · subst hs2
            have HD2 : Hid (doneG t (l.take (k + 1)) = DK ++ [run]) := hide (by rw [HD1.out, if_pos ⟨by omega, rfl⟩])
            go_wp2_with
              (first
               | (refine wpList_load_g 32 (.tmp 3) rfl rfl w.heap.size rfl _ _ HX01.out _ Try.underlying32 rfl (by kernel_rfl) ?_))
            with_reducible refine (prun_any _ _ _ _ rs run w1 (HRs.out.now HW1.out)).mono ?_
            rintro e w2 ⟨rfl, hb2⟩
            have HO2 := Lib.hid (own_below HO1.out hb2 (Nat.le_refl _))
            have HF2 := Lib.hid (own_below HF1.out hb2 (Nat.le_refl _))
            have HLg2 := Lib.hid (HLg1.out.below hb2 HLg1.out.lt)
            have HB2 := Lib.hid (HB1.out.trans (hb2.mono hsz1))
            have HW2 := Lib.hid (HW1.out.trans (hb2.mono HW1.out.size))
            have hsz2 : wb.heap.size ≤ w2.heap.size := Nat.le_trans hsz1 hb2.size
            have HX02 := Lib.hid (HX01.out.below hb2 (Nat.lt_of_lt_of_le hxx0 hsz1))
            clear hb2
            obtain ⟨q, hq⟩ : ∃ q, rnOf rs run = q := ⟨_, rfl⟩
            obtain ⟨rb, hrb⟩ : ∃ b, hasR rs run = b := ⟨_, rfl⟩
            rw [hq, hrb]
            have hn := HTn.out
            rw [hq, hrb] at hn
            have HTn := Lib.hid hn
            clear hn hq hrb
            obtain ⟨rid, rop, rfr, rtt, rgr, rzn, rln⟩ := q
            go_upto_region 12 with (fail)
            have HBw3 := (Blk.new w2 56 #[.int .i64 rid, .int .i64 rop, .int .i64 rfr, .int .i64 rtt, .int .i64 rgr, .int .i64 rzn, .int .i64 rln])
            have HLw3 := (below_new w2 (.cells #[.int .i64 rid, .int .i64 rop, .int .i64 rfr, .int .i64 rtt, .int .i64 rgr, .int .i64 rzn, .int .i64 rln] 56))
            have hsw3 : (w2.alloc (.cells #[.int .i64 rid, .int .i64 rop, .int .i64 rfr, .int .i64 rtt, .int .i64 rgr, .int .i64 rzn, .int .i64 rln] 56)).heap.size = w2.heap.size + 1 := by simp
            generalize w2.alloc (.cells #[.int .i64 rid, .int .i64 rop, .int .i64 rfr, .int .i64 rtt, .int .i64 rgr, .int .i64 rzn, .int .i64 rln] 56) = w3 at HBw3 HLw3 hsw3 ⊢
            replace HBw3 := Lib.hid HBw3
            replace HLw3 := Lib.hid HLw3
            have hlw3 : w2.heap.size < w3.heap.size := by omega
            replace hsw3 := Lib.hid hsw3
            have hb3 := HLw3.out
            have HLr3 := HBw3
            have hro : wo.heap.size < w2.heap.size := HLg2.out.lt
            clear HBw3 HLw3 hsw3 hlw3 c0 c1 c2 c3 c4 c5 c6 c7
            have HO3 := Lib.hid (own_below HO2.out hb3 (Nat.le_refl _))
            have HF3 := Lib.hid (own_below HF2.out hb3 (Nat.le_refl _))
            have HLg3 := Lib.hid (HLg2.out.below hb3 HLg2.out.lt)
            have HB3 := Lib.hid (HB2.out.trans (hb3.mono hsz2))
            have HW3 := Lib.hid (HW2.out.trans (hb3.mono HW2.out.size))
            have hsz3 : wb.heap.size ≤ w3.heap.size := Nat.le_trans hsz2 hb3.size
            have HX03 := Lib.hid (HX02.out.below hb3 (Nat.lt_of_lt_of_le hxx0 hsz2))
            clear hb3
            have c0 : w3.cell? ⟨wo.heap.size, 0, none⟩ = some (.int .i64 id) := HLg3.out.cell 0
            have c1 : w3.cell? ⟨wo.heap.size, 1, none⟩ = some (.int .i64 nod) := HLg3.out.cell 1
            have c2 : w3.cell? ⟨wo.heap.size, 2, none⟩ = some (.int .i64 fuel) := HLg3.out.cell 2
            have c3 : w3.cell? ⟨wo.heap.size, 3, none⟩ = some (.int .i64 2) := HLg3.out.cell 3
            have c4 : w3.cell? ⟨wo.heap.size, 4, none⟩ = some (.int .i64 tg) := HLg3.out.cell 4
            have c5 : w3.cell? ⟨wo.heap.size, 5, none⟩ = some (.int .i64 run) := HLg3.out.cell 5
            have c6 : w3.cell? ⟨wo.heap.size, 6, none⟩ = some (.int .i64 til) := HLg3.out.cell 6
            have c7 : w3.cell? ⟨wo.heap.size, 7, none⟩ = some (.bool win) := HLg3.out.cell 7
            have r0 : w3.cell? ⟨w2.heap.size, 0, none⟩ = some (.int .i64 rid) := HLr3.out.cell 0
            have r1 : w3.cell? ⟨w2.heap.size, 1, none⟩ = some (.int .i64 rop) := HLr3.out.cell 1
            have r2 : w3.cell? ⟨w2.heap.size, 2, none⟩ = some (.int .i64 rfr) := HLr3.out.cell 2
            have r3 : w3.cell? ⟨w2.heap.size, 3, none⟩ = some (.int .i64 rtt) := HLr3.out.cell 3
            have r4 : w3.cell? ⟨w2.heap.size, 4, none⟩ = some (.int .i64 rgr) := HLr3.out.cell 4
            have r5 : w3.cell? ⟨w2.heap.size, 5, none⟩ = some (.int .i64 rzn) := HLr3.out.cell 5
            have r6 : w3.cell? ⟨w2.heap.size, 6, none⟩ = some (.int .i64 rln) := HLr3.out.cell 6
            cases rb with
            | true =>
              go_upto_region 14 with (first
                | (refine wpList_store_field 3 (.tmp 46) (.tmp 45) rfl rfl wo.heap.size 1 (.int .i64 rtt) rfl rfl _ _ HLg3.out (by kernel_rfl) (by simp) rfl rfl ?_
                   intro w4 hx4 hon4
                   have HLg4 : Hid (Blk w4 wo.heap.size 51 #[.int .i64 id, .int .i64 rtt, .int .i64 fuel, .int .i64 2, .int .i64 tg, .int .i64 run, .int .i64 til, .bool win]) := hide hx4
                   have HB4 := Lib.hid (hon4.below HB3.out hszo)
                   have HX04 := Lib.hid (hon4.blk HX03.out (Nat.ne_of_lt hxo))
                   have HO4 := Lib.hid (hon4.own HO3.out hOg)
                   have HF4 := Lib.hid (hon4.own HF3.out (row_blk HF3.out HLg3.out (by decide)))
                   clear hx4 hon4))
              clear c0 c1 c2 c3 c4 c5 c6 c7
              have c0 : w4.cell? ⟨wo.heap.size, 0, none⟩ = some (.int .i64 id) := HLg4.out.cell 0
              have c1 : w4.cell? ⟨wo.heap.size, 1, none⟩ = some (.int .i64 rtt) := HLg4.out.cell 1
              have c2 : w4.cell? ⟨wo.heap.size, 2, none⟩ = some (.int .i64 fuel) := HLg4.out.cell 2
              have c3 : w4.cell? ⟨wo.heap.size, 3, none⟩ = some (.int .i64 2) := HLg4.out.cell 3
              have c4 : w4.cell? ⟨wo.heap.size, 4, none⟩ = some (.int .i64 tg) := HLg4.out.cell 4
              have c5 : w4.cell? ⟨wo.heap.size, 5, none⟩ = some (.int .i64 run) := HLg4.out.cell 5
              have c6 : w4.cell? ⟨wo.heap.size, 6, none⟩ = some (.int .i64 til) := HLg4.out.cell 6
              have c7 : w4.cell? ⟨wo.heap.size, 7, none⟩ = some (.bool win) := HLg4.out.cell 7
              have hsl : wb.heap.size ≤ w4.heap.size := HB4.out.size
              go_upto_region 15 with (first
                | (at_builtin
                   refine wpList_app_lit ei_ints rfl (.tmp 47) (.tmp 50) rfl wb.heap.size (.slice Af nf cf) nf (DK.map (Value.int .i64)) rfl HF4.out 1 rfl rfl (by simp [Value.oneCell']) (by simp only [maxLen]; omega) (by omega) hsl ?_
                   intro v5 w5 hown5 hbx5 hgx5 hat5
                   have HF5' := Lib.hid (OwnI.snoc hown5 (by rw [HLf.out]) rfl)
                   have HO5 := Lib.hid (HO4.out.kept (grown_alloc' hgx5) (own_rows HF4.out HO4.out (by decide)))
                   have HLg5 := Lib.hid (HLg4.out.grown (grown_alloc' hgx5) (Ne.symm (row_blk HF4.out HLg4.out (by decide))))
                   have HX05 := Lib.hid (HX04.out.grown (grown_alloc' hgx5) (Ne.symm (row_blk HF4.out HX04.out (by decide))))
                   have HB5 := Lib.hid (HB4.out.trans hbx5)
                   obtain ⟨A5, n5, c5, rfl, HL5, _, _, _⟩ := HF5'.out.nam
                   clear hown5 hbx5 hgx5 hat5))
              have HF5 := Lib.hid (HF5'.out.row HL5.out)
              clear hsl
              have HE : Hid (TK.set k ⟨id, rtt, fuel, 0, 0, 0, til, win⟩ = tkL rs t l (k + 1)) := hide (HTn.out _ (by simp))
              go_upto_region 16 with (first
                | (refine wpList_store_field 3 (.tmp 52) (.const (.int .i64 0)) rfl rfl wo.heap.size 3 (.int .i64 0) rfl rfl _ _ HLg5.out (by kernel_rfl) (by simp) rfl rfl ?_
                   intro w6 hx6 hon6
                   have HLg6 : Hid (Blk w6 wo.heap.size 51 #[.int .i64 id, .int .i64 rtt, .int .i64 fuel, .int .i64 0, .int .i64 tg, .int .i64 run, .int .i64 til, .bool win]) := hide hx6
                   have HB6 := Lib.hid (hon6.below HB5.out hszo)
                   have HX06 := Lib.hid (hon6.blk HX05.out (Nat.ne_of_lt hxo))
                   have HO6 := Lib.hid (hon6.own HO5.out hOg)
                   have HF6 := Lib.hid (hon6.own HF5.out (row_blk HF5.out HLg5.out (by decide)))
                   clear hx6 hon6)
                | (refine wpList_store_field 3 (.tmp 53) (.const (.int .i64 0)) rfl rfl wo.heap.size 4 (.int .i64 0) rfl rfl _ _ HLg6.out (by kernel_rfl) (by simp) rfl rfl ?_
                   intro w7 hx7 hon7
                   have HLg7 : Hid (Blk w7 wo.heap.size 51 #[.int .i64 id, .int .i64 rtt, .int .i64 fuel, .int .i64 0, .int .i64 0, .int .i64 run, .int .i64 til, .bool win]) := hide hx7
                   have HB7 := Lib.hid (hon7.below HB6.out hszo)
                   have HX07 := Lib.hid (hon7.blk HX06.out (Nat.ne_of_lt hxo))
                   have HO7 := Lib.hid (hon7.own HO6.out hOg)
                   have HF7 := Lib.hid (hon7.own HF6.out (row_blk HF6.out HLg6.out (by decide)))
                   clear hx7 hon7)
                | (refine wpList_store_field 3 (.tmp 54) (.const (.int .i64 0)) rfl rfl wo.heap.size 5 (.int .i64 0) rfl rfl _ _ HLg7.out (by kernel_rfl) (by simp) rfl rfl ?_
                   intro w8 hx8 hon8
                   have HLg8 : Hid (Blk w8 wo.heap.size 51 #[.int .i64 id, .int .i64 rtt, .int .i64 fuel, .int .i64 0, .int .i64 0, .int .i64 0, .int .i64 til, .bool win]) := hide hx8
                   have HB8 := Lib.hid (hon8.below HB7.out hszo)
                   have HX08 := Lib.hid (hon8.blk HX07.out (Nat.ne_of_lt hxo))
                   have HO8 := Lib.hid (hon8.own HO7.out hOg)
                   have HF8 := Lib.hid (hon8.own HF7.out (row_blk HF7.out HLg7.out (by decide)))
                   clear hx8 hon8))
              have HP8 : Hid (OwnGr w8 wb.heap.size (.slice (some ad) n cp0) TK) := hide (OwnT.mk' HO8.out HKl.out)
              go_wp2_with
                (first
                 | (refine wpList_load_g 51 (.tmp 11) rfl rfl wo.heap.size rfl _ _ HLg8.out _ Try.underlying51 rfl (by kernel_rfl) ?_)
                 | (refine wpList_store_ownT 51 (.tmp 58) (.tmp 57) rfl rfl HP8.out HKl.out k hlt ⟨id, rtt, fuel, 0, 0, 0, til, win⟩ _ rfl rfl rfl (fun _ => rfl) (by kernel_rfl) (one_gr _) ?_
                    intro w9 hO9 hon9
                    have HO9 : Hid (OwnGr w9 wb.heap.size (.slice (some ad) n cp0) (tkL rs t l (k + 1))) := hide (by rw [← HE.out]; exact hO9)
                    have HB9 := Lib.hid (hon9.below HB8.out hlo)
                    have HF9 : Hid (OwnI w9 wb.heap.size (.slice A5 n5 c5) (doneG t (l.take (k + 1)))) := hide (by rw [HD2.out]; exact OwnI.mk' (hon9.own HF8.out (own_ne2 HO8.out HF8.out (by decide))) HL5.out.symm rfl)
                    clear hO9 hon9))
              go_roundw
              case rel => exact ⟨k + 1, by omega, by go_num, HO9.out, HF9.out, HB9.out⟩
              case measure => simp [intOf]; omega
            | false =>
              go_upto_region 14 with (fail)
              clear c0 c1 c2 c3 c4 c5 c6 c7
              have c0 : w3.cell? ⟨wo.heap.size, 0, none⟩ = some (.int .i64 id) := HLg3.out.cell 0
              have c1 : w3.cell? ⟨wo.heap.size, 1, none⟩ = some (.int .i64 nod) := HLg3.out.cell 1
              have c2 : w3.cell? ⟨wo.heap.size, 2, none⟩ = some (.int .i64 fuel) := HLg3.out.cell 2
              have c3 : w3.cell? ⟨wo.heap.size, 3, none⟩ = some (.int .i64 2) := HLg3.out.cell 3
              have c4 : w3.cell? ⟨wo.heap.size, 4, none⟩ = some (.int .i64 tg) := HLg3.out.cell 4
              have c5 : w3.cell? ⟨wo.heap.size, 5, none⟩ = some (.int .i64 run) := HLg3.out.cell 5
              have c6 : w3.cell? ⟨wo.heap.size, 6, none⟩ = some (.int .i64 til) := HLg3.out.cell 6
              have c7 : w3.cell? ⟨wo.heap.size, 7, none⟩ = some (.bool win) := HLg3.out.cell 7
              have hsl : wb.heap.size ≤ w3.heap.size := HB3.out.size
              go_upto_region 15 with (first
                | (at_builtin
                   refine wpList_app_lit ei_ints rfl (.tmp 47) (.tmp 50) rfl wb.heap.size (.slice Af nf cf) nf (DK.map (Value.int .i64)) rfl HF3.out 1 rfl rfl (by simp [Value.oneCell']) (by simp only [maxLen]; omega) (by omega) hsl ?_
                   intro v5 w5 hown5 hbx5 hgx5 hat5
                   have HF5' := Lib.hid (OwnI.snoc hown5 (by rw [HLf.out]) rfl)
                   have HO5 := Lib.hid (HO3.out.kept (grown_alloc' hgx5) (own_rows HF3.out HO3.out (by decide)))
                   have HLg5 := Lib.hid (HLg3.out.grown (grown_alloc' hgx5) (Ne.symm (row_blk HF3.out HLg3.out (by decide))))
                   have HX05 := Lib.hid (HX03.out.grown (grown_alloc' hgx5) (Ne.symm (row_blk HF3.out HX03.out (by decide))))
                   have HB5 := Lib.hid (HB3.out.trans hbx5)
                   obtain ⟨A5, n5, c5, rfl, HL5, _, _, _⟩ := HF5'.out.nam
                   clear hown5 hbx5 hgx5 hat5))
              have HF5 := Lib.hid (HF5'.out.row HL5.out)
              clear hsl
              have HE : Hid (TK.set k ⟨id, nod, fuel, 0, 0, 0, til, win⟩ = tkL rs t l (k + 1)) := hide (HTn.out _ (by simp))
              go_upto_region 16 with (first
                | (refine wpList_store_field 3 (.tmp 52) (.const (.int .i64 0)) rfl rfl wo.heap.size 3 (.int .i64 0) rfl rfl _ _ HLg5.out (by kernel_rfl) (by simp) rfl rfl ?_
                   intro w6 hx6 hon6
                   have HLg6 : Hid (Blk w6 wo.heap.size 51 #[.int .i64 id, .int .i64 nod, .int .i64 fuel, .int .i64 0, .int .i64 tg, .int .i64 run, .int .i64 til, .bool win]) := hide hx6
                   have HB6 := Lib.hid (hon6.below HB5.out hszo)
                   have HX06 := Lib.hid (hon6.blk HX05.out (Nat.ne_of_lt hxo))
                   have HO6 := Lib.hid (hon6.own HO5.out hOg)
                   have HF6 := Lib.hid (hon6.own HF5.out (row_blk HF5.out HLg5.out (by decide)))
                   clear hx6 hon6)
                | (refine wpList_store_field 3 (.tmp 53) (.const (.int .i64 0)) rfl rfl wo.heap.size 4 (.int .i64 0) rfl rfl _ _ HLg6.out (by kernel_rfl) (by simp) rfl rfl ?_
                   intro w7 hx7 hon7
                   have HLg7 : Hid (Blk w7 wo.heap.size 51 #[.int .i64 id, .int .i64 nod, .int .i64 fuel, .int .i64 0, .int .i64 0, .int .i64 run, .int .i64 til, .bool win]) := hide hx7
                   have HB7 := Lib.hid (hon7.below HB6.out hszo)
                   have HX07 := Lib.hid (hon7.blk HX06.out (Nat.ne_of_lt hxo))
                   have HO7 := Lib.hid (hon7.own HO6.out hOg)
                   have HF7 := Lib.hid (hon7.own HF6.out (row_blk HF6.out HLg6.out (by decide)))
                   clear hx7 hon7)
                | (refine wpList_store_field 3 (.tmp 54) (.const (.int .i64 0)) rfl rfl wo.heap.size 5 (.int .i64 0) rfl rfl _ _ HLg7.out (by kernel_rfl) (by simp) rfl rfl ?_
                   intro w8 hx8 hon8
                   have HLg8 : Hid (Blk w8 wo.heap.size 51 #[.int .i64 id, .int .i64 nod, .int .i64 fuel, .int .i64 0, .int .i64 0, .int .i64 0, .int .i64 til, .bool win]) := hide hx8
                   have HB8 := Lib.hid (hon8.below HB7.out hszo)
                   have HX08 := Lib.hid (hon8.blk HX07.out (Nat.ne_of_lt hxo))
                   have HO8 := Lib.hid (hon8.own HO7.out hOg)
                   have HF8 := Lib.hid (hon8.own HF7.out (row_blk HF7.out HLg7.out (by decide)))
                   clear hx8 hon8))
              have HP8 : Hid (OwnGr w8 wb.heap.size (.slice (some ad) n cp0) TK) := hide (OwnT.mk' HO8.out HKl.out)
              go_wp2_with
                (first
                 | (refine wpList_load_g 51 (.tmp 11) rfl rfl wo.heap.size rfl _ _ HLg8.out _ Try.underlying51 rfl (by kernel_rfl) ?_)
                 | (refine wpList_store_ownT 51 (.tmp 58) (.tmp 57) rfl rfl HP8.out HKl.out k hlt ⟨id, nod, fuel, 0, 0, 0, til, win⟩ _ rfl rfl rfl (fun _ => rfl) (by kernel_rfl) (one_gr _) ?_
                    intro w9 hO9 hon9
                    have HO9 : Hid (OwnGr w9 wb.heap.size (.slice (some ad) n cp0) (tkL rs t l (k + 1))) := hide (by rw [← HE.out]; exact hO9)
                    have HB9 := Lib.hid (hon9.below HB8.out hlo)
                    have HF9 : Hid (OwnI w9 wb.heap.size (.slice A5 n5 c5) (doneG t (l.take (k + 1)))) := hide (by rw [HD2.out]; exact OwnI.mk' (hon9.own HF8.out (own_ne2 HO8.out HF8.out (by decide))) HL5.out.symm rfl)
                    clear hO9 hon9))
              go_roundw
              case rel => exact ⟨k + 1, by omega, by go_num, HO9.out, HF9.out, HB9.out⟩
              case measure => simp [intOf]; omega
          · have d2 : (st == 2) = false := beq_eq_false_iff_ne.2 hs2
            have HD2 : Hid (doneG t (l.take (k + 1)) = DK) := hide (by rw [HD1.out, if_neg (fun h => hs2 h.2), List.append_nil])
            have HE : Hid (TK.set k ⟨id, nod, fuel, 0, 0, 0, til, win⟩ = tkL rs t l (k + 1)) := hide (HTn.out _ (by simp [hs1, hs2]))
            go_upto_region 16 with (first
              | (refine wpList_store_field 3 (.tmp 52) (.const (.int .i64 0)) rfl rfl wo.heap.size 3 (.int .i64 0) rfl rfl _ _ HLg1.out (by kernel_rfl) (by simp) rfl rfl ?_
                 intro w6 hx6 hon6
                 have HLg6 : Hid (Blk w6 wo.heap.size 51 #[.int .i64 id, .int .i64 nod, .int .i64 fuel, .int .i64 0, .int .i64 tg, .int .i64 run, .int .i64 til, .bool win]) := hide hx6
                 have HB6 := Lib.hid (hon6.below HB1.out hszo)
                 have HX06 := Lib.hid (hon6.blk HX01.out (Nat.ne_of_lt hxo))
                 have HO6 := Lib.hid (hon6.own HO1.out hOg)
                 have HF6 := Lib.hid (hon6.own HF1.out (row_blk HF1.out HLg1.out (by decide)))
                 clear hx6 hon6)
              | (refine wpList_store_field 3 (.tmp 53) (.const (.int .i64 0)) rfl rfl wo.heap.size 4 (.int .i64 0) rfl rfl _ _ HLg6.out (by kernel_rfl) (by simp) rfl rfl ?_
                 intro w7 hx7 hon7
                 have HLg7 : Hid (Blk w7 wo.heap.size 51 #[.int .i64 id, .int .i64 nod, .int .i64 fuel, .int .i64 0, .int .i64 0, .int .i64 run, .int .i64 til, .bool win]) := hide hx7
                 have HB7 := Lib.hid (hon7.below HB6.out hszo)
                 have HX07 := Lib.hid (hon7.blk HX06.out (Nat.ne_of_lt hxo))
                 have HO7 := Lib.hid (hon7.own HO6.out hOg)
                 have HF7 := Lib.hid (hon7.own HF6.out (row_blk HF6.out HLg6.out (by decide)))
                 clear hx7 hon7)
              | (refine wpList_store_field 3 (.tmp 54) (.const (.int .i64 0)) rfl rfl wo.heap.size 5 (.int .i64 0) rfl rfl _ _ HLg7.out (by kernel_rfl) (by simp) rfl rfl ?_
                 intro w8 hx8 hon8
                 have HLg8 : Hid (Blk w8 wo.heap.size 51 #[.int .i64 id, .int .i64 nod, .int .i64 fuel, .int .i64 0, .int .i64 0, .int .i64 0, .int .i64 til, .bool win]) := hide hx8
                 have HB8 := Lib.hid (hon8.below HB7.out hszo)
                 have HX08 := Lib.hid (hon8.blk HX07.out (Nat.ne_of_lt hxo))
                 have HO8 := Lib.hid (hon8.own HO7.out hOg)
                 have HF8 := Lib.hid (hon8.own HF7.out (row_blk HF7.out HLg7.out (by decide)))
                 clear hx8 hon8))
            have HP8 : Hid (OwnGr w8 wb.heap.size (.slice (some ad) n cp0) TK) := hide (OwnT.mk' HO8.out HKl.out)
            go_wp2_with
              (first
               | (refine wpList_load_g 51 (.tmp 11) rfl rfl wo.heap.size rfl _ _ HLg8.out _ Try.underlying51 rfl (by kernel_rfl) ?_)
               | (refine wpList_store_ownT 51 (.tmp 58) (.tmp 57) rfl rfl HP8.out HKl.out k hlt ⟨id, nod, fuel, 0, 0, 0, til, win⟩ _ rfl rfl rfl (fun _ => rfl) (by kernel_rfl) (one_gr _) ?_
                  intro w9 hO9 hon9
                  have HO9 : Hid (OwnGr w9 wb.heap.size (.slice (some ad) n cp0) (tkL rs t l (k + 1))) := hide (by rw [← HE.out]; exact hO9)
                  have HB9 := Lib.hid (hon9.below HB8.out hlo)
                  have HF9 : Hid (OwnI w9 wb.heap.size (.slice Af nf cf) (doneG t (l.take (k + 1)))) := hide (by rw [HD2.out]; exact OwnI.mk' (hon9.own HF8.out (own_ne2 HO8.out HF8.out (by decide))) HLf.out.symm rfl)
                  clear hO9 hon9))
            go_roundw
            case rel => exact ⟨k + 1, by omega, by go_num, HO9.out, HF9.out, HB9.out⟩
            case measure => simp [intOf]; omega
    · obtain rfl : k = n := by omega
      have HO9 : Hid (OwnGr wo w.heap.size (.slice A0 k cp0) (tickG rs t l)) := hide (by have h := HOo.out; rw [← HN.out, tkL_all, HN.out] at h; exact h.mono hl0)
      have HF9 : Hid (OwnI wo w.heap.size (.slice Af nf cf) (doneG t l)) := hide (by have h := OwnI.mk' HFr.out HLf.out.symm rfl; rw [List.take_of_length_le (by rw [HN.out]; exact Nat.le_refl _)] at h; exact h.mono hl0)
      go_wp2_with fail
      try go_ret2
      exact HFin.out _ _ _ HO9.out HF9.out HWo.out
end Go.Proofs.Ytegijfmdjaehjaa
