/-
  find and ends of the law of chapter 45, walked.
-/
import Derived.Test.YtegijfmdjaehjaaGruO
namespace Go.Proofs.Ytegijfmdjaehjaa
open Go.RowKit

def lfX (l : List Gr) (i : Int) : Gr := if findG l i < 0 then gr0 else l.getD (findG l i).toNat gr0
def lfB (l : List Gr) (i : Int) : Bool := decide (0 ≤ findG l i)
theorem lf_yes {l : List Gr} {i : Int} {k : Nat} (h : findG l i = (k : Int)) : lfX l i = l.getD k gr0 ∧ lfB l i = true := by
  unfold lfX lfB
  rw [h, if_neg (by omega)]
  exact ⟨by simp, decide_eq_true (by omega)⟩
theorem lf_no {l : List Gr} {i : Int} (h : findG l i = -1) : lfX l i = gr0 ∧ lfB l i = false := by
  unfold lfX lfB
  rw [h, if_pos (by omega)]
  exact ⟨rfl, by decide⟩
def LfR (x : Gr) (b : Bool) (w : World) (e : Ending) (w' : World) : Prop := e = .returned (.tuple #[.agg #[.int .i64 x.id, .int .i64 x.nod, .int .i64 x.fuel, .int .i64 x.st, .int .i64 x.tg, .int .i64 x.run, .int .i64 x.til, .bool x.win], .bool b]) ∧ Below w.heap.size w w'
theorem lfR_of {q q' : Gr} {b b' : Bool} {w w' : World} (h : q = q') (h2 : b = b') (hb : Below w.heap.size w w') : LfR q b w (.returned (.tuple #[.agg #[.int .i64 q'.id, .int .i64 q'.nod, .int .i64 q'.fuel, .int .i64 q'.st, .int .i64 q'.tg, .int .i64 q'.run, .int .i64 q'.til, .bool q'.win], .bool b'])) w' := ⟨by rw [h, h2], hb⟩
theorem findG_ids : ∀ {l l' : List Gr} {i : Int} {k : Nat}, l.map Gr.id = l'.map Gr.id → idxG (fun x => x.id == i) l k = idxG (fun x => x.id == i) l' k
  | [], [], _, _, _ => rfl
  | [], _ :: _, _, _, h => by cases h
  | _ :: _, [], _, _, h => by cases h
  | x :: l, y :: l', i, k, h => by
    rw [List.map_cons, List.map_cons] at h
    injection h with h1 h2
    rw [idxG, idxG, findG_ids h2]
    simp only [h1]
theorem tick_find (rs : List Rn) (t : Int) (l : List Gr) (i : Int) : findG (tickG rs t l) i = findG l i := by
  refine findG_ids ?_
  unfold tickG
  rw [List.map_map]
  exact List.map_congr_left fun x _ => (tickX_keep t x).1
section
variable {nd : List Nd} {lf : List Lf} {rs : List Rn} {bs : List Int}
theorem set_find {l : List Gr} {k : Nat} {x : Gr} {i : Int} (h : findG l i = (k : Int)) (hx : x.id = (l.getD k gr0).id) : findG (l.set k x) i = (k : Int) ∧ (l.set k x).getD k gr0 = x := by
  have hk := (findG_spec h).1
  refine ⟨(findG_ids (set_ids hk hx)).trans h, ?_⟩
  rw [getD_set hk, if_pos rfl]
theorem send_at (hm : MapOK nd lf rs bs) {l ls : List Gr} (hok : OkG l) {gi tgt t : Int} {k : Nat} {id nod fuel st tg run til : Int} {win : Bool} (hk : findG l gi = (k : Int)) (hx : l.getD k gr0 = ⟨id, nod, fuel, st, tg, run, til, win⟩) (h : sendG (fun u => wayO nd lf rs u tgt) l gi tgt t = (ls, 0)) :
    ∃ m, wayO nd lf rs nod tgt = some m ∧ (0 ≤ m ∧ m ≤ 1000000000000) ∧ (0 ≤ t ∧ t ≤ 20000000) ∧ ls.length ≤ 16 ∧ findG ls gi = (k : Int) ∧ ls.getD k gr0 = ⟨id, nod, fuel - 2 * m, 1, tgt, run, t + (m + 2) / 3, win⟩ := by
  obtain ⟨k', n, h1, h2, h3, h4, h5, h6, rfl⟩ := send_is h
  rw [h1] at hk
  obtain rfl : k' = k := by omega
  rw [hx] at h2 h3 h4
  have hb := wayO_bnd hm.wy h3
  have hs := set_find (x := sentG (l.getD k' gr0) n tgt t) h1 rfl
  refine ⟨n, h3, hb, ⟨h5, by omega⟩, by simpa using hok.len, hs.1, ?_⟩
  rw [hs.2, hx]
  rfl
theorem groom_at {l ls : List Gr} (hok : OkG l) {gi rg s t : Int} {k : Nat} {id nod fuel st tg run til : Int} {win : Bool} (hk : findG l gi = (k : Int)) (hx : l.getD k gr0 = ⟨id, nod, fuel, st, tg, run, til, win⟩) (h : groomG rs l gi rg s t = (ls, 0)) :
    hasR rs rg = true ∧ (1 ≤ s ∧ s ≤ 86400) ∧ (0 ≤ t ∧ t ≤ 20000000) ∧ ls.length ≤ 16 ∧ onG ls rg = true ∧ findG ls gi = (k : Int) ∧ ls.getD k gr0 = ⟨id, nod, fuel - 5 * s, 2, tg, rg, t + s, win⟩ := by
  obtain ⟨k', h1, h2, h3, _, h4, h5, h6, h7, h8, rfl⟩ := groom_is h
  rw [h1] at hk
  obtain rfl : k' = k := by omega
  have hs := set_find (x := begunG (l.getD k' gr0) rg s t) h1 rfl
  refine ⟨h2, ⟨h5, h6⟩, ⟨h7, by omega⟩, by simpa using hok.len, ?_, hs.1, ?_⟩
  · unfold onG
    rw [List.any_eq_true]
    refine ⟨begunG (l.getD k' gr0) rg s t, ?_, by simp [begunG]⟩
    have h9 := gr_mem (l := l.set k' (begunG (l.getD k' gr0) rg s t)) (k := k') (by simpa using (findG_spec h1).1)
    rwa [hs.2] at h9
  · rw [hs.2, hx]
    rfl
theorem groom_no {l ls : List Gr} {gi rg s t c : Int} (h : groomG rs l gi rg s t = (ls, c)) (hc : c ≠ 0) : ls = [] := by
  unfold groomG groomV at h
  repeat' split at h
  all_goals (injection h with h1 h2; first | exact h1.symm | exact absurd h2.symm hc)
end
set_option maxRecDepth 100000 in
set_option maxHeartbeats 8000000 in
theorem lfind_any (v : Value) (l : List Gr) (i : Int) (w : World) (hv : GrV w w.heap.size v l) :
    Calls Try.prog 28 #[v, .int .i64 i] w (LfR (lfX l i) (lfB l i) w) := by
  obtain ⟨A, n, c, rfl, HN, hc1, hc2, hr⟩ := hv.nam
  have HR := Lib.hid hr
  have hm : n ≤ maxLen := Nat.le_trans hc1 hc2
  unfold maxLen at hm hc2
  have HY : Hid (∀ k : Nat, findG l i = (k : Int) → lfX l i = l.getD k gr0 ∧ lfB l i = true) := fun k h => lf_yes h
  have HNo : Hid (findG l i = -1 → lfX l i = gr0 ∧ lfB l i = false) := fun h => lf_no h
  generalize lfX l i = qq at *
  generalize lfB l i = bb at *
  have HS0 : Hid (findG l i = idxG (fun x => x.id == i) (l.drop 0) 0) := hide rfl
  generalize findG l i = R at *
  clear hv hr
  go_enter Try.func28, Try.ntmps28
  go_wp2_with fail
  have HBwb := (Blk.new w 51 #[.int .i64 0, .int .i64 0, .int .i64 0, .int .i64 0, .int .i64 0, .int .i64 0, .int .i64 0, .bool false])
  have HLwb := (below_new w (.cells #[.int .i64 0, .int .i64 0, .int .i64 0, .int .i64 0, .int .i64 0, .int .i64 0, .int .i64 0, .bool false] 51))
  have hswb : (w.alloc (.cells #[.int .i64 0, .int .i64 0, .int .i64 0, .int .i64 0, .int .i64 0, .int .i64 0, .int .i64 0, .bool false] 51)).heap.size = w.heap.size + 1 := by simp
  generalize w.alloc (.cells #[.int .i64 0, .int .i64 0, .int .i64 0, .int .i64 0, .int .i64 0, .int .i64 0, .int .i64 0, .bool false] 51) = wb at HBwb HLwb hswb ⊢
  replace HBwb := Lib.hid HBwb
  replace HLwb := Lib.hid HLwb
  have hlwb : w.heap.size < wb.heap.size := by omega
  replace hswb := Lib.hid hswb
  have HWb := Lib.hid (HLwb.out)
  have hl0 : w.heap.size ≤ wb.heap.size := HWb.out.size
  have HBb : Hid (Below wb.heap.size wb wb) := hide (Below.refl _ _)
  have hszb : wb.heap.size ≤ wb.heap.size := Nat.le_refl _
  have HX0b : Hid (Blk wb w.heap.size 51 #[.int .i64 0, .int .i64 0, .int .i64 0, .int .i64 0, .int .i64 0, .int .i64 0, .int .i64 0, .bool false]) := hide HBwb.out
  have hxx0 : w.heap.size < wb.heap.size := HX0b.out.lt
  clear HBwb HLwb hswb hlwb
  go_loopw [6] (fun v wr => ∃ k : Nat, k ≤ n ∧ v = .int .i64 k ∧ R = idxG (fun x => x.id == i) (l.drop k) k ∧ Below wb.heap.size wb wr) (fun v _ => n - (intOf v).toNat)
  case atStart => exact ⟨0, by omega, rfl, HS0.out, Below.refl _ _⟩
  case round =>
    obtain ⟨k, hk, rfl, hF, hbr⟩ := hrel
    have HF := Lib.hid hF
    clear hF
    obtain ⟨wo, rfl⟩ : ∃ wo : World, wo = wr := ⟨_, rfl⟩
    have HBo := Lib.hid (HBb.out.trans (hbr.mono hszb))
    have HWo := Lib.hid (HWb.out.trans (hbr.mono HWb.out.size))
    have hszo : wb.heap.size ≤ wo.heap.size := Nat.le_trans hszb hbr.size
    have HX0o := Lib.hid (HX0b.out.below hbr (Nat.lt_of_lt_of_le hxx0 hszb))
    clear hbr
    by_cases hlt : k < n
    · obtain ⟨ad, rfl, hab, hcl⟩ := strs_at (HR.out.below HWo.out) (fun _ => rfl) HN.out hlt gr0
      have HF1 := Lib.hid (HF.out.trans (idxG_at (fun x => x.id == i) (l := l) (k := k) (by rw [HN.out]; exact hlt)))
      have HYk := Lib.hid (HY.out k)
      generalize l.getD k gr0 = g at *
      obtain ⟨id, nod, fuel, st, tg, run, til, win⟩ := g
      have HCl : Hid (∀ j u, ([.int .i64 id, .int .i64 nod, .int .i64 fuel, .int .i64 st, .int .i64 tg, .int .i64 run, .int .i64 til, .bool win] : List Value)[j]? = some u → wo.cell? ((ad.add (k * 8)).add j) = some u) := hcl
      have f0 : wo.cell? (ad.add (k * 8)) = some (.int .i64 id) := by
        have h := HCl.out 0 _ rfl
        rwa [show (ad.add (k * 8)).add 0 = ad.add (k * 8) by unfold Addr.add; simp] at h
      clear hcl
      by_cases hid : id = i
      · have d1 : (id == i) = true := beq_iff_eq.2 hid
        have HE : Hid (R = (k : Int)) := hide (by have h := HF1.out; simp only [d1, if_true] at h; exact h)
        have HE2 := Lib.hid (HYk.out HE.out)
        clear hid
        go_wp2_with
          (first
           | (refine wpList_load_at 51 (.tmp 22) rfl rfl (ad.add (k * 8)) rfl [.int .i64 id, .int .i64 nod, .int .i64 fuel, .int .i64 st, .int .i64 tg, .int .i64 run, .int .i64 til, .bool win] HCl.out _ Try.underlying51 rfl (by kernel_rfl) ?_)
           | (refine wpList_store_blk rfl 51 (.tmp 4) (.tmp 23) rfl w.heap.size #[.int .i64 id, .int .i64 nod, .int .i64 fuel, .int .i64 st, .int .i64 tg, .int .i64 run, .int .i64 til, .bool win] rfl rfl _ _ HX0o.out (by kernel_rfl) rfl (by simp [Value.oneCell']) ?_
              intro w2 hx2 hon2
              have HX2 := Lib.hid hx2
              have HB2 := Lib.hid (hon2.below HWo.out (Nat.le_refl _))
              clear hx2 hon2))
        refine bodyPost_ret (results_cell_row_tmp rfl _ _ w.heap.size 51 _ _ _ rfl rfl HX2.out Try.underlying51 rfl (by kernel_rfl)) rfl ?_
        exact lfR_of HE2.out.1 HE2.out.2 HB2.out
      · have d1 : (id == i) = false := beq_eq_false_iff_ne.2 hid
        have HE : Hid (R = idxG (fun x => x.id == i) (l.drop (k + 1)) (k + 1)) := hide (by have h := HF1.out; simp only [d1] at h; exact h)
        clear hid
        go_wp2_with fail
        go_roundw
        case rel => exact ⟨k + 1, by omega, by go_num, HE.out, HBo.out⟩
        case measure => simp [intOf]; omega
    · obtain rfl : k = n := by omega
      have HE : Hid (R = -1) := hide (by have h := HF.out; rw [List.drop_of_length_le (by rw [HN.out]; exact Nat.le_refl _)] at h; exact h)
      have HE2 := Lib.hid (HNo.out HE.out)
      go_wp2_with
        (first
         | (refine wpList_store_blk rfl 51 (.tmp 4) (.tmp 24) rfl w.heap.size #[.int .i64 0, .int .i64 0, .int .i64 0, .int .i64 0, .int .i64 0, .int .i64 0, .int .i64 0, .bool false] rfl rfl _ _ HX0o.out (by kernel_rfl) rfl (by simp [Value.oneCell']) ?_
            intro w2 hx2 hon2
            have HX2 := Lib.hid hx2
            have HB2 := Lib.hid (hon2.below HWo.out (Nat.le_refl _))
            clear hx2 hon2))
      refine bodyPost_ret (results_cell_row_tmp rfl _ _ w.heap.size 51 _ _ _ rfl rfl HX2.out Try.underlying51 rfl (by kernel_rfl)) rfl ?_
      exact lfR_of HE2.out.1 HE2.out.2 HB2.out
set_option maxRecDepth 100000 in
set_option maxHeartbeats 8000000 in
theorem ends_any (vn vl vr vb v : Value) (rs : List Rn) (l : List Gr) (k : Nat) (id nod fuel st tg run til : Int) (win : Bool) (node before : Int) (w : World) (hr : StrV Rn.cells 7 w w.heap.size vr rs) (hv : GrV w w.heap.size v l) (hlen : l.length ≤ 16)
    (hk : findG l id = (k : Int)) (hx : l.getD k gr0 = ⟨id, nod, fuel, st, tg, run, til, win⟩) (hn : (endedG rs ⟨id, nod, fuel, st, tg, run, til, win⟩).nod = node) :
    Calls Try.prog 29 #[.agg #[vn, vl, vr, vb], v, .agg #[.int .i64 id, .int .i64 nod, .int .i64 fuel, .int .i64 st, .int .i64 tg, .int .i64 run, .int .i64 til, .bool win], .int .i64 node, .int .i64 before] w fun e w' => e = .returned (.bool true) ∧ Below w.heap.size w w' := by
  have HR := Lib.hid hr
  have HV := Lib.hid hv
  have hkl := (findG_spec hk).1
  have HT : Hid (∀ (t : Int) (W : World), StrV Rn.cells 7 W W.heap.size vr rs → GrV W W.heap.size v l → Calls Try.prog 23 #[.agg #[vn, vl, vr, vb], v, .int .i64 t] W fun e w' => ∃ v' f', e = .returned (.tuple #[v', f']) ∧ GrV w' w'.heap.size v' (tickG rs t l) ∧ Below W.heap.size W w') := fun t W h3 h4 => by
    refine (gtick_any vn vl vr vb rs _ l t W h3 h4 hlen).mono ?_
    rintro e w' ⟨v', f', rfl, k1, _, k3⟩
    exact ⟨v', f', rfl, k1.strV, k3⟩
  have HF1 : Hid (∀ (v' : Value) (W : World), GrV W W.heap.size v' (tickG rs til l) → Calls Try.prog 28 #[v', .int .i64 id] W fun e w' => e = .returned (.tuple #[.agg #[.int .i64 id, .int .i64 node, .int .i64 fuel, .int .i64 0, .int .i64 0, .int .i64 0, .int .i64 til, .bool win], .bool true]) ∧ Below W.heap.size W w') := fun v' W h => by
    have h1 := lfind_any v' _ id W h
    have h2 := lf_yes ((tick_find rs til l id).trans hk)
    rw [tick_at rs til hkl, hx] at h2
    rw [h2.1, h2.2, show tickX rs til ⟨id, nod, fuel, st, tg, run, til, win⟩ = ⟨id, node, fuel, 0, 0, 0, til, win⟩ by unfold tickX; rw [if_neg (show ¬ til < til by omega), ← hn]; rfl] at h1
    exact h1
  have HF2 : Hid (∀ (v' : Value) (W : World), GrV W W.heap.size v' (tickG rs before l) → Calls Try.prog 28 #[v', .int .i64 id] W (LfR (tickX rs before ⟨id, nod, fuel, st, tg, run, til, win⟩) true W)) := fun v' W h => by
    have h1 := lfind_any v' _ id W h
    have h2 := lf_yes ((tick_find rs before l id).trans hk)
    rw [tick_at rs before hkl, hx] at h2
    rw [h2.1, h2.2] at h1
    exact h1
  have HTx : Hid (before < til → tickX rs before ⟨id, nod, fuel, st, tg, run, til, win⟩ = ⟨id, nod, fuel, st, tg, run, til, win⟩) := fun h => by unfold tickX; rw [if_pos h]
  generalize tickX rs before ⟨id, nod, fuel, st, tg, run, til, win⟩ = z at *
  clear hr hv hk hx hn hkl
  go_enter Try.func29, Try.ntmps29
  go_upto_region 1 with (fail)
  have HBwz0 := (Blk.new w 32 #[vn, vl, vr, vb])
  have HLwz0 := (below_new w (.cells #[vn, vl, vr, vb] 32))
  have hswz0 : (w.alloc (.cells #[vn, vl, vr, vb] 32)).heap.size = w.heap.size + 1 := by simp
  generalize w.alloc (.cells #[vn, vl, vr, vb] 32) = wz0 at HBwz0 HLwz0 hswz0 ⊢
  replace HBwz0 := Lib.hid HBwz0
  replace HLwz0 := Lib.hid HLwz0
  have hlwz0 : w.heap.size < wz0.heap.size := by omega
  replace hswz0 := Lib.hid hswz0
  have HBwb := (Blk.new wz0 51 #[.int .i64 id, .int .i64 nod, .int .i64 fuel, .int .i64 st, .int .i64 tg, .int .i64 run, .int .i64 til, .bool win])
  have HLwb := (below_new wz0 (.cells #[.int .i64 id, .int .i64 nod, .int .i64 fuel, .int .i64 st, .int .i64 tg, .int .i64 run, .int .i64 til, .bool win] 51))
  have hswb : (wz0.alloc (.cells #[.int .i64 id, .int .i64 nod, .int .i64 fuel, .int .i64 st, .int .i64 tg, .int .i64 run, .int .i64 til, .bool win] 51)).heap.size = wz0.heap.size + 1 := by simp
  generalize wz0.alloc (.cells #[.int .i64 id, .int .i64 nod, .int .i64 fuel, .int .i64 st, .int .i64 tg, .int .i64 run, .int .i64 til, .bool win] 51) = wb at HBwb HLwb hswb ⊢
  replace HBwb := Lib.hid HBwb
  replace HLwb := Lib.hid HLwb
  have hlwb : wz0.heap.size < wb.heap.size := by omega
  replace hswb := Lib.hid hswb
  have HQ1 := Lib.hid (HLwz0.out.trans (HLwb.out.mono HLwz0.out.size))
  have HWb := Lib.hid (HQ1.out)
  have hl0 : w.heap.size ≤ wb.heap.size := HWb.out.size
  have HBb : Hid (Below wb.heap.size wb wb) := hide (Below.refl _ _)
  have hszb : wb.heap.size ≤ wb.heap.size := Nat.le_refl _
  have HZ0_1 := Lib.hid (HBwz0.out.below HLwb.out hlwz0)
  have hz0_1 : w.heap.size < wb.heap.size := HZ0_1.out.lt
  have HX0b : Hid (Blk wb w.heap.size 32 #[vn, vl, vr, vb]) := hide HZ0_1.out
  have hxx0 : w.heap.size < wb.heap.size := HX0b.out.lt
  have HX1b : Hid (Blk wb (w.heap.size + 1) 51 #[.int .i64 id, .int .i64 nod, .int .i64 fuel, .int .i64 st, .int .i64 tg, .int .i64 run, .int .i64 til, .bool win]) := hide (by have h := HBwb.out; rw [show wz0.heap.size = w.heap.size + 1 from by have := hswz0.out; omega] at h; exact h)
  have hxx1 : (w.heap.size + 1) < wb.heap.size := HX1b.out.lt
  clear HBwz0 HLwz0 hswz0 hlwz0
  clear HBwb HLwb hswb hlwb
  have HRb := Lib.hid (HR.out.now HWb.out)
  have HVb := Lib.hid (HV.out.now HWb.out)
  have c0 : wb.cell? ⟨w.heap.size + 1, 0, none⟩ = some (.int .i64 id) := HX1b.out.cell 0
  have c1 : wb.cell? ⟨w.heap.size + 1, 1, none⟩ = some (.int .i64 nod) := HX1b.out.cell 1
  have c2 : wb.cell? ⟨w.heap.size + 1, 2, none⟩ = some (.int .i64 fuel) := HX1b.out.cell 2
  have c3 : wb.cell? ⟨w.heap.size + 1, 3, none⟩ = some (.int .i64 st) := HX1b.out.cell 3
  have c4 : wb.cell? ⟨w.heap.size + 1, 4, none⟩ = some (.int .i64 tg) := HX1b.out.cell 4
  have c5 : wb.cell? ⟨w.heap.size + 1, 5, none⟩ = some (.int .i64 run) := HX1b.out.cell 5
  have c6 : wb.cell? ⟨w.heap.size + 1, 6, none⟩ = some (.int .i64 til) := HX1b.out.cell 6
  have c7 : wb.cell? ⟨w.heap.size + 1, 7, none⟩ = some (.bool win) := HX1b.out.cell 7
  go_wp2_with
    (first
     | (refine wpList_load_g 32 (.tmp 5) rfl rfl w.heap.size rfl _ _ HX0b.out _ Try.underlying32 rfl (by kernel_rfl) ?_))
  with_reducible refine (HT.out til _ HRb.out HVb.out).mono ?_
  rintro e w1 ⟨v1, f1, rfl, hv1, hb1⟩
  have HB1 := Lib.hid (HBb.out.trans (hb1.mono hszb))
  have HW1 := Lib.hid (HWb.out.trans (hb1.mono HWb.out.size))
  have hsz1 : wb.heap.size ≤ w1.heap.size := Nat.le_trans hszb hb1.size
  have HX01 := Lib.hid (HX0b.out.below hb1 (Nat.lt_of_lt_of_le hxx0 hszb))
  have HX11 := Lib.hid (HX1b.out.below hb1 (Nat.lt_of_lt_of_le hxx1 hszb))
  have HR1 := Lib.hid (HRb.out.now hb1)
  have HV1 := Lib.hid (HVb.out.now hb1)
  have HA1 := Lib.hid hv1
  clear hb1 hv1 c0 c1 c2 c3 c4 c5 c6 c7
  have c0 : w1.cell? ⟨w.heap.size + 1, 0, none⟩ = some (.int .i64 id) := HX11.out.cell 0
  have c1 : w1.cell? ⟨w.heap.size + 1, 1, none⟩ = some (.int .i64 nod) := HX11.out.cell 1
  have c2 : w1.cell? ⟨w.heap.size + 1, 2, none⟩ = some (.int .i64 fuel) := HX11.out.cell 2
  have c3 : w1.cell? ⟨w.heap.size + 1, 3, none⟩ = some (.int .i64 st) := HX11.out.cell 3
  have c4 : w1.cell? ⟨w.heap.size + 1, 4, none⟩ = some (.int .i64 tg) := HX11.out.cell 4
  have c5 : w1.cell? ⟨w.heap.size + 1, 5, none⟩ = some (.int .i64 run) := HX11.out.cell 5
  have c6 : w1.cell? ⟨w.heap.size + 1, 6, none⟩ = some (.int .i64 til) := HX11.out.cell 6
  have c7 : w1.cell? ⟨w.heap.size + 1, 7, none⟩ = some (.bool win) := HX11.out.cell 7
  go_wp2_with fail
  with_reducible refine (HF1.out v1 w1 HA1.out).mono ?_
  rintro e w2 ⟨rfl, hb2⟩
  have HB2 := Lib.hid (HB1.out.trans (hb2.mono hsz1))
  have HW2 := Lib.hid (HW1.out.trans (hb2.mono HW1.out.size))
  have hsz2 : wb.heap.size ≤ w2.heap.size := Nat.le_trans hsz1 hb2.size
  have HX02 := Lib.hid (HX01.out.below hb2 (Nat.lt_of_lt_of_le hxx0 hsz1))
  have HX12 := Lib.hid (HX11.out.below hb2 (Nat.lt_of_lt_of_le hxx1 hsz1))
  have HR2 := Lib.hid (HR1.out.now hb2)
  have HV2 := Lib.hid (HV1.out.now hb2)
  clear hb2 HA1 c0 c1 c2 c3 c4 c5 c6 c7
  go_upto_region 3 with (fail)
  have HBw3 := (Blk.new w2 51 #[.int .i64 id, .int .i64 node, .int .i64 fuel, .int .i64 0, .int .i64 0, .int .i64 0, .int .i64 til, .bool win])
  have HLw3 := (below_new w2 (.cells #[.int .i64 id, .int .i64 node, .int .i64 fuel, .int .i64 0, .int .i64 0, .int .i64 0, .int .i64 til, .bool win] 51))
  have hsw3 : (w2.alloc (.cells #[.int .i64 id, .int .i64 node, .int .i64 fuel, .int .i64 0, .int .i64 0, .int .i64 0, .int .i64 til, .bool win] 51)).heap.size = w2.heap.size + 1 := by simp
  generalize w2.alloc (.cells #[.int .i64 id, .int .i64 node, .int .i64 fuel, .int .i64 0, .int .i64 0, .int .i64 0, .int .i64 til, .bool win] 51) = w3 at HBw3 HLw3 hsw3 ⊢
  replace HBw3 := Lib.hid HBw3
  replace HLw3 := Lib.hid HLw3
  have hlw3 : w2.heap.size < w3.heap.size := by omega
  replace hsw3 := Lib.hid hsw3
  have hb3 := HLw3.out
  have HLy3 := HBw3
  clear HBw3 HLw3 hsw3 hlw3
  have HB3 := Lib.hid (HB2.out.trans (hb3.mono hsz2))
  have HW3 := Lib.hid (HW2.out.trans (hb3.mono HW2.out.size))
  have hsz3 : wb.heap.size ≤ w3.heap.size := Nat.le_trans hsz2 hb3.size
  have HX03 := Lib.hid (HX02.out.below hb3 (Nat.lt_of_lt_of_le hxx0 hsz2))
  have HX13 := Lib.hid (HX12.out.below hb3 (Nat.lt_of_lt_of_le hxx1 hsz2))
  have HR3 := Lib.hid (HR2.out.now hb3)
  have HV3 := Lib.hid (HV2.out.now hb3)
  clear hb3
  have c0 : w3.cell? ⟨w.heap.size + 1, 0, none⟩ = some (.int .i64 id) := HX13.out.cell 0
  have c1 : w3.cell? ⟨w.heap.size + 1, 1, none⟩ = some (.int .i64 nod) := HX13.out.cell 1
  have c2 : w3.cell? ⟨w.heap.size + 1, 2, none⟩ = some (.int .i64 fuel) := HX13.out.cell 2
  have c3 : w3.cell? ⟨w.heap.size + 1, 3, none⟩ = some (.int .i64 st) := HX13.out.cell 3
  have c4 : w3.cell? ⟨w.heap.size + 1, 4, none⟩ = some (.int .i64 tg) := HX13.out.cell 4
  have c5 : w3.cell? ⟨w.heap.size + 1, 5, none⟩ = some (.int .i64 run) := HX13.out.cell 5
  have c6 : w3.cell? ⟨w.heap.size + 1, 6, none⟩ = some (.int .i64 til) := HX13.out.cell 6
  have c7 : w3.cell? ⟨w.heap.size + 1, 7, none⟩ = some (.bool win) := HX13.out.cell 7
  have y0 : w3.cell? ⟨w2.heap.size, 0, none⟩ = some (.int .i64 id) := HLy3.out.cell 0
  have y1 : w3.cell? ⟨w2.heap.size, 1, none⟩ = some (.int .i64 node) := HLy3.out.cell 1
  have y2 : w3.cell? ⟨w2.heap.size, 2, none⟩ = some (.int .i64 fuel) := HLy3.out.cell 2
  have y3 : w3.cell? ⟨w2.heap.size, 3, none⟩ = some (.int .i64 0) := HLy3.out.cell 3
  have y4 : w3.cell? ⟨w2.heap.size, 4, none⟩ = some (.int .i64 0) := HLy3.out.cell 4
  have y5 : w3.cell? ⟨w2.heap.size, 5, none⟩ = some (.int .i64 0) := HLy3.out.cell 5
  have y6 : w3.cell? ⟨w2.heap.size, 6, none⟩ = some (.int .i64 til) := HLy3.out.cell 6
  have y7 : w3.cell? ⟨w2.heap.size, 7, none⟩ = some (.bool win) := HLy3.out.cell 7
  have e1 : (node != node) = false := by simp
  have e2 : (fuel != fuel) = false := by simp
  go_wp2_with
    (first
     | (refine wpList_load_g 32 (.tmp 5) rfl rfl w.heap.size rfl _ _ HX03.out _ Try.underlying32 rfl (by kernel_rfl) ?_))
  with_reducible refine (HT.out before _ HR3.out HV3.out).mono ?_
  rintro e w4 ⟨v4, f4, rfl, hv4, hb4⟩
  have HB4 := Lib.hid (HB3.out.trans (hb4.mono hsz3))
  have HW4 := Lib.hid (HW3.out.trans (hb4.mono HW3.out.size))
  have hsz4 : wb.heap.size ≤ w4.heap.size := Nat.le_trans hsz3 hb4.size
  have HX04 := Lib.hid (HX03.out.below hb4 (Nat.lt_of_lt_of_le hxx0 hsz3))
  have HX14 := Lib.hid (HX13.out.below hb4 (Nat.lt_of_lt_of_le hxx1 hsz3))
  have HR4 := Lib.hid (HR3.out.now hb4)
  have HV4 := Lib.hid (HV3.out.now hb4)
  have HA4 := Lib.hid hv4
  clear hb4 hv4 c0 c1 c2 c3 c4 c5 c6 c7 y0 y1 y2 y3 y4 y5 y6 y7
  have c0 : w4.cell? ⟨w.heap.size + 1, 0, none⟩ = some (.int .i64 id) := HX14.out.cell 0
  have c1 : w4.cell? ⟨w.heap.size + 1, 1, none⟩ = some (.int .i64 nod) := HX14.out.cell 1
  have c2 : w4.cell? ⟨w.heap.size + 1, 2, none⟩ = some (.int .i64 fuel) := HX14.out.cell 2
  have c3 : w4.cell? ⟨w.heap.size + 1, 3, none⟩ = some (.int .i64 st) := HX14.out.cell 3
  have c4 : w4.cell? ⟨w.heap.size + 1, 4, none⟩ = some (.int .i64 tg) := HX14.out.cell 4
  have c5 : w4.cell? ⟨w.heap.size + 1, 5, none⟩ = some (.int .i64 run) := HX14.out.cell 5
  have c6 : w4.cell? ⟨w.heap.size + 1, 6, none⟩ = some (.int .i64 til) := HX14.out.cell 6
  have c7 : w4.cell? ⟨w.heap.size + 1, 7, none⟩ = some (.bool win) := HX14.out.cell 7
  go_wp2_with fail
  with_reducible refine (HF2.out v4 w4 HA4.out).mono ?_
  rintro e w5 ⟨rfl, hb5⟩
  have HB5 := Lib.hid (HB4.out.trans (hb5.mono hsz4))
  have HW5 := Lib.hid (HW4.out.trans (hb5.mono HW4.out.size))
  have hsz5 : wb.heap.size ≤ w5.heap.size := Nat.le_trans hsz4 hb5.size
  have HX05 := Lib.hid (HX04.out.below hb5 (Nat.lt_of_lt_of_le hxx0 hsz4))
  have HX15 := Lib.hid (HX14.out.below hb5 (Nat.lt_of_lt_of_le hxx1 hsz4))
  have HR5 := Lib.hid (HR4.out.now hb5)
  have HV5 := Lib.hid (HV4.out.now hb5)
  clear hb5 HA4 c0 c1 c2 c3 c4 c5 c6 c7
  obtain ⟨zi, zn, zf, zs, zg, zr, zt, zw⟩ := z
  go_upto_region 7 with (fail)
  have HBw6 := (Blk.new w5 51 #[.int .i64 zi, .int .i64 zn, .int .i64 zf, .int .i64 zs, .int .i64 zg, .int .i64 zr, .int .i64 zt, .bool zw])
  have HLw6 := (below_new w5 (.cells #[.int .i64 zi, .int .i64 zn, .int .i64 zf, .int .i64 zs, .int .i64 zg, .int .i64 zr, .int .i64 zt, .bool zw] 51))
  have hsw6 : (w5.alloc (.cells #[.int .i64 zi, .int .i64 zn, .int .i64 zf, .int .i64 zs, .int .i64 zg, .int .i64 zr, .int .i64 zt, .bool zw] 51)).heap.size = w5.heap.size + 1 := by simp
  generalize w5.alloc (.cells #[.int .i64 zi, .int .i64 zn, .int .i64 zf, .int .i64 zs, .int .i64 zg, .int .i64 zr, .int .i64 zt, .bool zw] 51) = w6 at HBw6 HLw6 hsw6 ⊢
  replace HBw6 := Lib.hid HBw6
  replace HLw6 := Lib.hid HLw6
  have hlw6 : w5.heap.size < w6.heap.size := by omega
  replace hsw6 := Lib.hid hsw6
  have hb6 := HLw6.out
  have HLz6 := HBw6
  clear HBw6 HLw6 hsw6 hlw6
  have HB6 := Lib.hid (HB5.out.trans (hb6.mono hsz5))
  have HW6 := Lib.hid (HW5.out.trans (hb6.mono HW5.out.size))
  have hsz6 : wb.heap.size ≤ w6.heap.size := Nat.le_trans hsz5 hb6.size
  have HX06 := Lib.hid (HX05.out.below hb6 (Nat.lt_of_lt_of_le hxx0 hsz5))
  have HX16 := Lib.hid (HX15.out.below hb6 (Nat.lt_of_lt_of_le hxx1 hsz5))
  have HR6 := Lib.hid (HR5.out.now hb6)
  have HV6 := Lib.hid (HV5.out.now hb6)
  clear hb6
  have c0 : w6.cell? ⟨w.heap.size + 1, 0, none⟩ = some (.int .i64 id) := HX16.out.cell 0
  have c1 : w6.cell? ⟨w.heap.size + 1, 1, none⟩ = some (.int .i64 nod) := HX16.out.cell 1
  have c2 : w6.cell? ⟨w.heap.size + 1, 2, none⟩ = some (.int .i64 fuel) := HX16.out.cell 2
  have c3 : w6.cell? ⟨w.heap.size + 1, 3, none⟩ = some (.int .i64 st) := HX16.out.cell 3
  have c4 : w6.cell? ⟨w.heap.size + 1, 4, none⟩ = some (.int .i64 tg) := HX16.out.cell 4
  have c5 : w6.cell? ⟨w.heap.size + 1, 5, none⟩ = some (.int .i64 run) := HX16.out.cell 5
  have c6 : w6.cell? ⟨w.heap.size + 1, 6, none⟩ = some (.int .i64 til) := HX16.out.cell 6
  have c7 : w6.cell? ⟨w.heap.size + 1, 7, none⟩ = some (.bool win) := HX16.out.cell 7
  by_cases hbt : before < til
  · have d0 : decide (before ≥ til) = false := decide_eq_false (by omega)
    have hz := HTx.out hbt
    injection hz with z1 z2 z3 z4 z5 z6 z7 z8
    subst z1 z2 z3 z4 z5 z6 z7 z8
    go_wp2_with
      (first
       | (refine wpList_load_g 51 (.tmp 17) rfl rfl w5.heap.size rfl _ _ HLz6.out _ Try.underlying51 rfl (by kernel_rfl) ?_)
       | (refine wpList_load_g 51 (.tmp 7) rfl rfl (w.heap.size + 1) rfl _ _ HX16.out _ Try.underlying51 rfl (by kernel_rfl) ?_))
    try go_ret
    exact ⟨rfl, HW6.out⟩
  · have d0 : decide (before ≥ til) = true := decide_eq_true (by omega)
    go_wp2_with fail
    try go_ret
    exact ⟨rfl, HW6.out⟩
end Go.Proofs.Ytegijfmdjaehjaa
