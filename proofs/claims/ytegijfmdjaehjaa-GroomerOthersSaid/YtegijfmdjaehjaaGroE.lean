/-
  The edges of the groomers, walked.
-/
import Derived.Test.YtegijfmdjaehjaaGroD
namespace Go.Proofs.Ytegijfmdjaehjaa
open Go.RowKit

theorem own_one {w : World} {base : Nat} {e : TypeId} {size n : Nat} {v : Value} {xs : List Value} (h : w.ownsRow base e size v n xs) : v.oneCell' = true := by
  obtain ⟨A, c, rfl, _⟩ := own_open h
  rfl
theorem cells_one {w : World} {base : Nat} {v : Value} {l : List Ed} (h : OwnE w base v l) : v.cells = #[v] := by
  obtain ⟨A, n, c, rfl, _⟩ := h.nam
  rfl

set_option maxRecDepth 100000 in
set_option maxHeartbeats 4000000 in
theorem add_any (g lo : Nat) (v : Value) (acc : List Ed) (f t c : Int) (w : World) (hg : Blk w g 73 #[v]) (ho : OwnE w lo v acc) (hlo : lo ≤ g) (hlw : lo ≤ w.heap.size) (hn : acc.length ≤ 1000) :
    Calls Try.prog 59 #[.int .i64 f, .int .i64 t, .int .i64 c, .pointer (some ⟨g, 0, none⟩)] w fun e w' => ∃ v', e = .returned (.tuple #[]) ∧ Blk w' g 73 #[v'] ∧ OwnE w' lo v' (add2 acc f t c) ∧ Below lo w w' := by
  obtain ⟨Av, nv, cv, rfl, HLv, hv1, hv2, _⟩ := ho.nam
  have HO := Lib.hid (ho.row HLv.out)
  have HG := Lib.hid hg
  have c0 : w.cell? ⟨g, 0, none⟩ = some (.slice Av nv cv) := hg.cell 0
  have hnv : nv ≤ 1000 := by rw [← HLv.out]; exact hn
  have hglt := hg.lt
  have HA2 : Hid (add2 acc f t c = (acc ++ [⟨(nv : Int), f, t, c⟩]) ++ [⟨((nv + 1 : Nat) : Int), t, f, c⟩]) := hide (by rw [← HLv.out]; rfl)
  clear hg ho hn
  go_enter Try.func59, Try.ntmps59
  go_upto_region 1 with (first
    | (at_builtin
       refine wpList_app_lit ei_edge rfl (.tmp 7) (.tmp 14) rfl lo (.slice Av nv cv) nv (acc.map Ed.cells).flatten rfl HO.out 1 rfl rfl (by simp [Value.oneCell']) (by simp only [maxLen]; omega) (by omega) hlw ?_
       intro v1 w1 hown1 hb1 hg1 hat1
       have HO1 : Hid (OwnE w1 lo v1 (acc ++ [⟨(nv : Int), f, t, c⟩])) := hide (OwnE.snoc hown1 (by rw [HLv.out]) rfl)
       have HB1 := Lib.hid hb1
       have HG1 := Lib.hid (HG.out.grown (grown_alloc hg1) (Ne.symm (row_blk HO.out HG.out (by decide))))
       have hv1o : v1.oneCell' = true := own_one hown1
       clear hown1 hb1 hg1 hat1)
    | (refine wpList_store_field 73 (.tmp 3) (.tmp 15) rfl rfl g 0 v1 rfl rfl 73 #[.slice Av nv cv] HG1.out (by kernel_rfl) (by simp) hv1o (cells_one HO1.out) ?_
       intro w2 hx2 hon2
       have HG2 : Hid (Blk w2 g 73 #[v1]) := hx2
       have HB2 := Lib.hid (hon2.below HB1.out hlo)
       have HO2 : Hid (OwnE w2 lo v1 (acc ++ [⟨(nv : Int), f, t, c⟩])) := hide (hon2.own HO1.out (row_blk HO1.out HG1.out (by decide)))
       clear hx2 hon2))
  obtain ⟨A1, n1, c1, rfl, HL1, h11, h12, _⟩ := HO2.out.nam
  have HOr := Lib.hid (HO2.out.row HL1.out)
  have hn1 : n1 = nv + 1 := by rw [← HL1.out]; simp [HLv.out]
  have hn1' : n1 ≤ 1001 := by omega
  have HN1 := Lib.hid hn1
  have cc0 : w2.cell? ⟨g, 0, none⟩ = some (.slice A1 n1 c1) := HG2.out.cell 0
  have hlw2 : lo ≤ w2.heap.size := Nat.le_trans hlw HB2.out.size
  clear hn1 c0
  go_wp2_with (first
    | (at_builtin
       refine wpList_app_lit ei_edge rfl (.tmp 16) (.tmp 23) rfl lo (.slice A1 n1 c1) n1 ((acc ++ [(⟨(nv : Int), f, t, c⟩ : Ed)]).map Ed.cells).flatten rfl HOr.out 1 rfl rfl (by simp [Value.oneCell']) (by simp only [maxLen]; omega) (by omega) hlw2 ?_
       intro v3 w3 hown3 hb3 hg3 hat3
       have HO3 : Hid (OwnE w3 lo v3 ((acc ++ [⟨(nv : Int), f, t, c⟩]) ++ [⟨(n1 : Int), t, f, c⟩])) := hide (OwnE.snoc hown3 (by rw [HL1.out]) rfl)
       have HB3 := Lib.hid (HB2.out.trans hb3)
       have HG3 := Lib.hid (HG2.out.grown (grown_alloc hg3) (Ne.symm (row_blk HO2.out HG2.out (by decide))))
       have hv3o : v3.oneCell' = true := own_one hown3
       clear hown3 hb3 hg3 hat3)
    | (refine wpList_store_field 73 (.tmp 3) (.tmp 24) rfl rfl g 0 v3 rfl rfl 73 #[.slice A1 n1 c1] HG3.out (by kernel_rfl) (by simp) hv3o (cells_one HO3.out) ?_
       intro w4 hx4 hon4
       have HG4 : Hid (Blk w4 g 73 #[v3]) := hx4
       have HB4 := Lib.hid (hon4.below HB3.out hlo)
       have HO4 : Hid (OwnE w4 lo v3 ((acc ++ [⟨(nv : Int), f, t, c⟩]) ++ [⟨(n1 : Int), t, f, c⟩])) := hide (hon4.own HO3.out (row_blk HO3.out HG3.out (by decide)))
       clear hx4 hon4))
  go_end0
  exact ⟨rfl, v3, HG4.out, by rw [HA2.out, ← HN1.out]; exact HO4.out, HB4.out⟩

set_option maxRecDepth 100000 in
set_option maxHeartbeats 4000000 in
theorem lines_any (vn vl vr vb : Value) (lf : List Lf) (rs : List Rn) (w : World) (hl : StrV Lf.cells 8 w w.heap.size vl lf) (hr : StrV Rn.cells 7 w w.heap.size vr rs) (h1 : lf.length ≤ 32) (h2 : rs.length ≤ 64) :
    Calls Try.prog 41 #[.agg #[vn, vl, vr, vb]] w fun e w' => ∃ v, e = .returned v ∧ OwnE w' w.heap.size v (lnE lf rs) ∧ Below w.heap.size w w' := by
  have hmf : ∀ (fn : Fn) (first cap : Array Value) (w : World), (Instr.makeFunc fn first cap).run Try.prog w = .ok (.func fn first cap) w := fun _ _ _ _ => rfl
  obtain ⟨A, n, c, rfl, HL, hc1, hc2, hl'⟩ := hl.nam
  obtain ⟨Ar, nr, cr, rfl, HLr, hd1, hd2, hr'⟩ := hr.nam
  have HLf := Lib.hid hl'
  have HRs := Lib.hid hr'
  have hn32 : n ≤ 32 := by rw [← HL.out]; exact h1
  have hr64 : nr ≤ 64 := by rw [← HLr.out]; exact h2
  simp only [maxLen] at hc2 hd2
  have HA : Hid (∀ (g lo : Nat) (v : Value) (acc : List Ed) (f t c : Int) (W : World), Blk W g 73 #[v] → OwnE W lo v acc → lo ≤ g → lo ≤ W.heap.size → acc.length ≤ 1000 → Calls Try.prog 59 #[.int .i64 f, .int .i64 t, .int .i64 c, .pointer (some ⟨g, 0, none⟩)] W fun e w' => ∃ v', e = .returned (.tuple #[]) ∧ Blk w' g 73 #[v'] ∧ OwnE w' lo v' (add2 acc f t c) ∧ Below lo W w') := fun g lo v acc f t c W a b d e h => add_any g lo v acc f t c W a b d e h
  clear hl hr hl' hr' h1 h2
  go_enter Try.func41, Try.ntmps41
  go_upto_region 2 with (fail)
  have HBw0 := (Blk.new w 32 #[vn, .slice A n c, .slice Ar nr cr, vb])
  have HLw0 := (below_new w (.cells #[vn, .slice A n c, .slice Ar nr cr, vb] 32))
  have hsw0 : (w.alloc (.cells #[vn, .slice A n c, .slice Ar nr cr, vb] 32)).heap.size = w.heap.size + 1 := by simp
  generalize w.alloc (.cells #[vn, .slice A n c, .slice Ar nr cr, vb] 32) = w0 at HBw0 HLw0 hsw0 ⊢
  replace HBw0 := Lib.hid HBw0
  replace HLw0 := Lib.hid HLw0
  have hlw0 : w.heap.size < w0.heap.size := by omega
  replace hsw0 := Lib.hid hsw0
  have HBwb := (Blk.new w0 73 #[.slice none 0 0])
  have HLwb := (below_new w0 (.cells #[.slice none 0 0] 73))
  have hswb : (w0.alloc (.cells #[.slice none 0 0] 73)).heap.size = w0.heap.size + 1 := by simp
  generalize w0.alloc (.cells #[.slice none 0 0] 73) = wb at HBwb HLwb hswb ⊢
  replace HBwb := Lib.hid HBwb
  replace HLwb := Lib.hid HLwb
  have hlwb : w0.heap.size < wb.heap.size := by omega
  replace hswb := Lib.hid hswb
  have HWb : Hid (Below w.heap.size w wb) := hide (HLw0.out.trans (HLwb.out.mono HLw0.out.size))
  have HX : Hid (Blk wb w.heap.size 32 #[vn, .slice A n c, .slice Ar nr cr, vb]) := hide (HBw0.out.below HLwb.out hlw0)
  have HGb := HBwb
  have hsz0 : w.heap.size < w0.heap.size := hlw0
  have hsz1 : w0.heap.size < wb.heap.size := hlwb
  have hw0 : w0.heap.size = w.heap.size + 1 := hsw0.out
  rw [hw0] at HGb hsz0 hsz1
  obtain ⟨g, hg⟩ : ∃ x, w.heap.size + 1 = x := ⟨_, rfl⟩
  have hglo : w.heap.size + 1 ≤ g := by omega
  rw [hg] at HGb hsz0 hsz1 ⊢
  clear HBw0 HLw0 hsw0 hlw0 HBwb HLwb hswb hlwb hg hw0
  have m0 : wb.cell? ⟨w.heap.size, 0, none⟩ = some (vn) := HX.out.cell 0
  have m1 : wb.cell? ⟨w.heap.size, 1, none⟩ = some (.slice A n c) := HX.out.cell 1
  have m2 : wb.cell? ⟨w.heap.size, 2, none⟩ = some (.slice Ar nr cr) := HX.out.cell 2
  have m3 : wb.cell? ⟨w.heap.size, 3, none⟩ = some (vb) := HX.out.cell 3
  go_wp2_with fail
  clear m0 m1 m2 m3 hmf
  go_loopw [13] (fun i wr => ∃ (k : Nat) (acc : List Ed) (v : Value), k ≤ n ∧ i = .int .i64 k ∧ Blk wr g 73 #[v] ∧ OwnE wr (w.heap.size + 1) v acc ∧ lnL (lf.drop k) acc = lnL lf [] ∧ acc.length ≤ 2 * k ∧ Blk wr w.heap.size 32 #[vn, .slice A n c, .slice Ar nr cr, vb] ∧ Below (w.heap.size + 1) wb wr) (fun i _ => n - (intOf i).toNat)
  case atStart => exact ⟨0, [], _, by omega, rfl, HGb.out, OwnE.nil _ _, rfl, by simp, HX.out, Below.refl _ _⟩
  case round =>
    obtain ⟨k, acc, v, hk, rfl, hg, ho, hF, hal, hx, hbr⟩ := hrel
    obtain ⟨wo, rfl⟩ : ∃ wo : World, wo = wr := ⟨_, rfl⟩
    have HGo := Lib.hid hg
    have HOo := Lib.hid ho
    have HF := Lib.hid hF
    have HXo := Lib.hid hx
    have HBo := Lib.hid hbr
    have hlow : w.heap.size + 1 ≤ wo.heap.size := by have := hg.lt; omega
    have HWo : Hid (Below w.heap.size w wo) := hide (HWb.out.trans (hbr.mono (Nat.le_succ _)))
    clear hg ho hF hx hbr
    by_cases hltn : k < n
    · obtain ⟨ad, rfl, hab, hcs⟩ := strs_at (HLf.out.below HWo.out) (fun _ => rfl) HL.out hltn lf0
      have HF1 := Lib.hid (HF.out.symm.trans (lnL_at (acc := acc) (by rw [HL.out]; exact hltn))).symm
      generalize lf.getD k lf0 = b at *
      obtain ⟨id, op, fr, tt, ln, sp, se, sc⟩ := b
      have HCs : Hid (∀ j u, ([.int .i64 id, .int .i64 op, .int .i64 fr, .int .i64 tt, .int .i64 ln, .int .i64 sp, .int .i64 se, .int .i64 sc] : List Value)[j]? = some u → wo.cell? ((ad.add (k * 8)).add j) = some u) := hcs
      simp only at HF1
      clear hcs
      go_upto_region 6 with (refine wpList_load_at 86 (.tmp 15) rfl rfl (ad.add (k * 8)) rfl [.int .i64 id, .int .i64 op, .int .i64 fr, .int .i64 tt, .int .i64 ln, .int .i64 sp, .int .i64 se, .int .i64 sc] HCs.out _ Try.underlying86 rfl (by kernel_rfl) ?_)
      have HBw1 := (Blk.new wo 86 #[.int .i64 id, .int .i64 op, .int .i64 fr, .int .i64 tt, .int .i64 ln, .int .i64 sp, .int .i64 se, .int .i64 sc])
      have HLw1 := (below_new wo (.cells #[.int .i64 id, .int .i64 op, .int .i64 fr, .int .i64 tt, .int .i64 ln, .int .i64 sp, .int .i64 se, .int .i64 sc] 86))
      have hsw1 : (wo.alloc (.cells #[.int .i64 id, .int .i64 op, .int .i64 fr, .int .i64 tt, .int .i64 ln, .int .i64 sp, .int .i64 se, .int .i64 sc] 86)).heap.size = wo.heap.size + 1 := by simp
      generalize wo.alloc (.cells #[.int .i64 id, .int .i64 op, .int .i64 fr, .int .i64 tt, .int .i64 ln, .int .i64 sp, .int .i64 se, .int .i64 sc] 86) = w1 at HBw1 HLw1 hsw1 ⊢
      replace HBw1 := Lib.hid HBw1
      replace HLw1 := Lib.hid HLw1
      have hlw1 : wo.heap.size < w1.heap.size := by omega
      replace hsw1 := Lib.hid hsw1
      have HG1 := Lib.hid (HGo.out.below HLw1.out HGo.out.lt)
      have HX1 := Lib.hid (HXo.out.below HLw1.out HXo.out.lt)
      have HO1 : Hid (OwnE w1 (w.heap.size + 1) v acc) := hide (own_below HOo.out HLw1.out (Nat.le_refl _))
      have HB1 := Lib.hid (HBo.out.trans (HLw1.out.mono hlow))
      have hlow1 : w.heap.size + 1 ≤ w1.heap.size := by omega
      have y0 : w1.cell? ⟨wo.heap.size, 0, none⟩ = some (.int .i64 id) := HBw1.out.cell 0
      have y1 : w1.cell? ⟨wo.heap.size, 1, none⟩ = some (.int .i64 op) := HBw1.out.cell 1
      have y2 : w1.cell? ⟨wo.heap.size, 2, none⟩ = some (.int .i64 fr) := HBw1.out.cell 2
      have y3 : w1.cell? ⟨wo.heap.size, 3, none⟩ = some (.int .i64 tt) := HBw1.out.cell 3
      have y4 : w1.cell? ⟨wo.heap.size, 4, none⟩ = some (.int .i64 ln) := HBw1.out.cell 4
      have y5 : w1.cell? ⟨wo.heap.size, 5, none⟩ = some (.int .i64 sp) := HBw1.out.cell 5
      have y6 : w1.cell? ⟨wo.heap.size, 6, none⟩ = some (.int .i64 se) := HBw1.out.cell 6
      have y7 : w1.cell? ⟨wo.heap.size, 7, none⟩ = some (.int .i64 sc) := HBw1.out.cell 7
      go_wp2_with fail
      clear y0 y1 y2 y3 y4 y5 y6 y7
      with_reducible refine (HA.out g (w.heap.size + 1) v acc fr tt ln w1 HG1.out HO1.out (by omega) hlow1 (by omega)).mono ?_
      rintro e w2 ⟨v2, rfl, hg2, ho2, hb2⟩
      have HG2 := Lib.hid hg2
      have HO2 := Lib.hid ho2
      have HX2 := Lib.hid (HX1.out.below hb2 (Nat.lt_succ_self _))
      have HB2 := Lib.hid (HB1.out.trans hb2)
      have HAl := Lib.hid (add2_len acc fr tt ln)
      clear hg2 ho2 hb2
      go_wp2_with fail
      go_roundw
      case rel => exact ⟨k + 1, _, v2, by omega, by go_num, HG2.out, HO2.out, HF1.out, by rw [HAl.out]; omega, HX2.out, HB2.out⟩
      case measure => simp [intOf]; omega
    · obtain rfl : k = n := by omega
      have HF1 : Hid (acc = lnL lf []) := by have h := HF.out; rw [List.drop_of_length_le (by rw [HL.out]; exact Nat.le_refl _)] at h; exact h
      have HF0 : Hid (lnR (rs.drop 0) acc = lnE lf rs) := by show lnR rs acc = _; rw [HF1.out]; rfl
      have m0 : wo.cell? ⟨w.heap.size, 0, none⟩ = some (vn) := HXo.out.cell 0
      have m1 : wo.cell? ⟨w.heap.size, 1, none⟩ = some (.slice A k c) := HXo.out.cell 1
      have m2 : wo.cell? ⟨w.heap.size, 2, none⟩ = some (.slice Ar nr cr) := HXo.out.cell 2
      have m3 : wo.cell? ⟨w.heap.size, 3, none⟩ = some (vb) := HXo.out.cell 3
      go_wp2_with fail
      clear m0 m1 m2 m3
      obtain ⟨k0, hk0⟩ : ∃ x, 2 * k = x := ⟨_, rfl⟩
      have hk64 : k0 ≤ 64 := by omega
      have hal0 : acc.length ≤ k0 := by omega
      clear hk0
      go_loopw [29] (fun i wr => ∃ (q : Nat) (acc : List Ed) (v : Value), q ≤ nr ∧ i = .int .i64 q ∧ Blk wr g 73 #[v] ∧ OwnE wr (w.heap.size + 1) v acc ∧ lnR (rs.drop q) acc = lnE lf rs ∧ acc.length ≤ k0 + 2 * q ∧ Blk wr w.heap.size 32 #[vn, .slice A k c, .slice Ar nr cr, vb] ∧ Below (w.heap.size + 1) wb wr) (fun i _ => nr - (intOf i).toNat)
      case atStart => exact ⟨0, acc, v, by omega, rfl, HGo.out, HOo.out, HF0.out, by omega, HXo.out, HBo.out⟩
      case round =>
        clear HGo HOo HF HXo HBo HWo HF1 HF0
        obtain ⟨q, acc, v, hk, rfl, hg, ho, hF, hal, hx, hbr⟩ := hrel
        obtain ⟨wo, rfl⟩ : ∃ wo : World, wo = wr := ⟨_, rfl⟩
        have HGo := Lib.hid hg
        have HOo := Lib.hid ho
        have HF := Lib.hid hF
        have HXo := Lib.hid hx
        have HBo := Lib.hid hbr
        have hlow : w.heap.size + 1 ≤ wo.heap.size := by have := hg.lt; omega
        have HWo : Hid (Below w.heap.size w wo) := hide (HWb.out.trans (hbr.mono (Nat.le_succ _)))
        clear hg ho hF hx hbr
        by_cases hltnr : q < nr
        · obtain ⟨ad, rfl, hab, hcs⟩ := strs_at (HRs.out.below HWo.out) (fun _ => rfl) HLr.out hltnr rn0
          have HF1 := Lib.hid (HF.out.symm.trans (lnR_at (acc := acc) (by rw [HLr.out]; exact hltnr))).symm
          generalize rs.getD q rn0 = b at *
          obtain ⟨id, op, fr, tt, gr, zn, ln⟩ := b
          have HCs : Hid (∀ j u, ([.int .i64 id, .int .i64 op, .int .i64 fr, .int .i64 tt, .int .i64 gr, .int .i64 zn, .int .i64 ln] : List Value)[j]? = some u → wo.cell? ((ad.add (q * 7)).add j) = some u) := hcs
          simp only at HF1
          clear hcs
          go_upto_region 11 with (refine wpList_load_at 56 (.tmp 31) rfl rfl (ad.add (q * 7)) rfl [.int .i64 id, .int .i64 op, .int .i64 fr, .int .i64 tt, .int .i64 gr, .int .i64 zn, .int .i64 ln] HCs.out _ Try.underlying56 rfl (by kernel_rfl) ?_)
          have HBw1 := (Blk.new wo 56 #[.int .i64 id, .int .i64 op, .int .i64 fr, .int .i64 tt, .int .i64 gr, .int .i64 zn, .int .i64 ln])
          have HLw1 := (below_new wo (.cells #[.int .i64 id, .int .i64 op, .int .i64 fr, .int .i64 tt, .int .i64 gr, .int .i64 zn, .int .i64 ln] 56))
          have hsw1 : (wo.alloc (.cells #[.int .i64 id, .int .i64 op, .int .i64 fr, .int .i64 tt, .int .i64 gr, .int .i64 zn, .int .i64 ln] 56)).heap.size = wo.heap.size + 1 := by simp
          generalize wo.alloc (.cells #[.int .i64 id, .int .i64 op, .int .i64 fr, .int .i64 tt, .int .i64 gr, .int .i64 zn, .int .i64 ln] 56) = w1 at HBw1 HLw1 hsw1 ⊢
          replace HBw1 := Lib.hid HBw1
          replace HLw1 := Lib.hid HLw1
          have hlw1 : wo.heap.size < w1.heap.size := by omega
          replace hsw1 := Lib.hid hsw1
          have HG1 := Lib.hid (HGo.out.below HLw1.out HGo.out.lt)
          have HX1 := Lib.hid (HXo.out.below HLw1.out HXo.out.lt)
          have HO1 : Hid (OwnE w1 (w.heap.size + 1) v acc) := hide (own_below HOo.out HLw1.out (Nat.le_refl _))
          have HB1 := Lib.hid (HBo.out.trans (HLw1.out.mono hlow))
          have hlow1 : w.heap.size + 1 ≤ w1.heap.size := by omega
          have y0 : w1.cell? ⟨wo.heap.size, 0, none⟩ = some (.int .i64 id) := HBw1.out.cell 0
          have y1 : w1.cell? ⟨wo.heap.size, 1, none⟩ = some (.int .i64 op) := HBw1.out.cell 1
          have y2 : w1.cell? ⟨wo.heap.size, 2, none⟩ = some (.int .i64 fr) := HBw1.out.cell 2
          have y3 : w1.cell? ⟨wo.heap.size, 3, none⟩ = some (.int .i64 tt) := HBw1.out.cell 3
          have y4 : w1.cell? ⟨wo.heap.size, 4, none⟩ = some (.int .i64 gr) := HBw1.out.cell 4
          have y5 : w1.cell? ⟨wo.heap.size, 5, none⟩ = some (.int .i64 zn) := HBw1.out.cell 5
          have y6 : w1.cell? ⟨wo.heap.size, 6, none⟩ = some (.int .i64 ln) := HBw1.out.cell 6
          go_wp2_with fail
          clear y0 y1 y2 y3 y4 y5 y6
          with_reducible refine (HA.out g (w.heap.size + 1) v acc fr tt ln w1 HG1.out HO1.out (by omega) hlow1 (by omega)).mono ?_
          rintro e w2 ⟨v2, rfl, hg2, ho2, hb2⟩
          have HG2 := Lib.hid hg2
          have HO2 := Lib.hid ho2
          have HX2 := Lib.hid (HX1.out.below hb2 (Nat.lt_succ_self _))
          have HB2 := Lib.hid (HB1.out.trans hb2)
          have HAl := Lib.hid (add2_len acc fr tt ln)
          clear hg2 ho2 hb2
          go_wp2_with fail
          go_roundw
          case rel => exact ⟨q + 1, _, v2, by omega, by go_num, HG2.out, HO2.out, HF1.out, by rw [HAl.out]; omega, HX2.out, HB2.out⟩
          case measure => simp [intOf]; omega
        · obtain rfl : q = nr := by omega
          have HF1 : Hid (acc = lnE lf rs) := by have h := HF.out; rw [List.drop_of_length_le (by rw [HLr.out]; exact Nat.le_refl _)] at h; exact h
          have cg : wo.cell? ⟨g, 0, none⟩ = some v := HGo.out.cell 0
          go_wp2_with fail
          go_ret
          exact ⟨v, rfl, by rw [← HF1.out]; exact OwnE.mono HOo.out (Nat.le_succ _), HWo.out⟩
end Go.Proofs.Ytegijfmdjaehjaa
