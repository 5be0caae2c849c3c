/-
  Egress and Empty of census, walked.
-/
import Derived.Test.YtihmboibpjfohaaCenO
import Derived.Test.YtihmboibpjfohaaTerA
import Derived.Test.YtihmboibpjfohaaHasA
namespace Go.Proofs.Ytihmboibpjfohaa
open Go.RowKit

def EgR (nd : List Nd) (rs : List Rn) (bs runs : List Int) (node : Int) (w : World) (e : Ending) (w' : World) : Prop := ∃ M : Int, EgV nd rs bs runs node M ∧ e = .returned (.int .i64 M) ∧ Below w.heap.size w w'
def EmR (nd : List Nd) (rs : List Rn) (bs runs : List Int) (node people : Int) (w : World) (e : Ending) (w' : World) : Prop := ∃ r : Int, (∀ M, EgV nd rs bs runs node M → r = emptyV people M) ∧ e = .returned (.int .i64 r) ∧ Below w.heap.size w w'

set_option maxRecDepth 100000 in
set_option maxHeartbeats 4000000 in
theorem egress_any (vn vl vr vb : Value) (Ar : Option Addr) (nr cr : Nat) (nd : List Nd) (rs : List Rn) (bs runs : List Int) (node : Int) (w : World) (hm : StrV Nd.cells 2 w w.heap.size vn nd) (hr : StrV Rn.cells 7 w w.heap.size vr rs) (hb : RowV w w.heap.size vb bs)
    (hru : Ints w w.heap.size Ar nr runs) (hnr : nr ≤ maxLen) (hok : EgOK nd rs bs) :
    Calls Try.prog 22 #[.agg #[vn, vl, vr, vb], .slice Ar nr cr, .int .i64 node] w (EgR nd rs bs runs node w) := by
  obtain ⟨A, n, c, rfl, HL, hc1, hc2, hr'⟩ := hr.nam
  obtain ⟨Ab, nb, cb, rfl, HLb, hd1, hd2, hb'⟩ := hb.nam
  have HR := Lib.hid hr'
  have HBs := Lib.hid hb'
  have HM := Lib.hid hm
  have HRu := Lib.hid hru
  have HK := Lib.hid hok
  have hn64 : n ≤ 64 := by rw [← HL.out]; exact hok.l1
  have hb64 : nb ≤ 64 := by rw [← HLb.out]; exact hok.l2
  have HRs : Hid (∀ k, k < n → 1 ≤ (rs.getD k rn0).gr ∧ (rs.getD k rn0).gr ≤ 4) := fun k hk => by
    have h := hok.runs (rs.getD k rn0) (by rw [show rs.getD k rn0 = rs[k]'(by rw [HL.out]; exact hk) by simp [List.getElem?_eq_getElem (show k < rs.length by rw [HL.out]; exact hk)]]; exact List.getElem_mem _)
    exact h.2.2
  have HFin : Hid (∀ (M : Int) (w' : World), EgV nd rs bs runs node M → Below w.heap.size w w' → EgR nd rs bs runs node w (.returned (.int .i64 M)) w') := fun M w' h1 h2 => ⟨M, h1, rfl, h2⟩
  have HE0 : Hid (hasN nd node = false → EgV nd rs bs runs node 0) := fun h => by unfold EgV; rw [if_neg (by rw [h]; decide)]
  have HE1 : Hid (hasN nd node = true → ∀ M, MaxV (egE rs runs bs) node 0 M → EgV nd rs bs runs node M) := fun h M hM => by unfold EgV; rw [if_pos h]; exact hM
  generalize EgR nd rs bs runs node w = RR at *
  generalize EgV nd rs bs runs node = EV at *
  simp only [maxLen] at hc2 hd2
  clear hm hr hb hr' hb' hru hok
  go_enter Try.func22, Try.ntmps22
  go_wp2_with fail
  have HBwb := (Blk.new w 44 #[vn, vl, .slice A n c, .slice Ab nb cb])
  have HLwb := (below_new w (.cells #[vn, vl, .slice A n c, .slice Ab nb cb] 44))
  have hswb : (w.alloc (.cells #[vn, vl, .slice A n c, .slice Ab nb cb] 44)).heap.size = w.heap.size + 1 := by simp
  generalize w.alloc (.cells #[vn, vl, .slice A n c, .slice Ab nb cb] 44) = wb at HBwb HLwb hswb ⊢
  replace HBwb := Lib.hid HBwb
  replace HLwb := Lib.hid HLwb
  have hlwb : w.heap.size < wb.heap.size := by omega
  replace hswb := Lib.hid hswb
  have HWb := Lib.hid (HLwb.out)
  have hl0 : w.heap.size ≤ wb.heap.size := HWb.out.size
  have HBb : Hid (Below wb.heap.size wb wb) := hide (Below.refl _ _)
  have hszb : wb.heap.size ≤ wb.heap.size := Nat.le_refl _
  have HX0b : Hid (Blk wb w.heap.size 44 #[vn, vl, .slice A n c, .slice Ab nb cb]) := hide HBwb.out
  have hxx0 : w.heap.size < wb.heap.size := HX0b.out.lt
  clear HBwb HLwb hswb hlwb
  have HMb := Lib.hid (HM.out.now HWb.out)
  have HRb := Lib.hid (HR.out.now HWb.out)
  have HBsb := Lib.hid (HBs.out.now HWb.out)
  have HRub := Lib.hid (HRu.out.now HWb.out)
  go_wp2_with
    (first
     | (refine wpList_load_g 44 (.tmp 15) rfl rfl w.heap.size rfl _ _ HX0b.out _ Try.underlying44 rfl (by kernel_rfl) ?_))
  with_reducible refine (pnode_any _ _ _ _ nd node wb HMb.out).mono ?_
  rintro e w1 ⟨rfl, hb1⟩
  have HB1 := Lib.hid (HBb.out.trans (hb1.mono hszb))
  have HW1 := Lib.hid (HWb.out.trans (hb1.mono HWb.out.size))
  have hsz1 : wb.heap.size ≤ w1.heap.size := Nat.le_trans hszb hb1.size
  have HX01 := Lib.hid (HX0b.out.below hb1 (Nat.lt_of_lt_of_le hxx0 hszb))
  have HM1 := Lib.hid (HMb.out.now hb1)
  have HR1 := Lib.hid (HRb.out.now hb1)
  have HBs1 := Lib.hid (HBsb.out.now hb1)
  have HRu1 := Lib.hid (HRub.out.now hb1)
  clear hb1
  obtain ⟨⟨qi, qa⟩, hq⟩ : ∃ q, ndOf nd node = q := ⟨_, rfl⟩
  rw [hq]
  obtain ⟨ok, hokk⟩ : ∃ b, hasN nd node = b := ⟨_, rfl⟩
  rw [hokk]
  have HOk := Lib.hid hokk
  clear hq hokk
  go_upto_region 2 with (fail)
  have HBw2 := (Blk.new w1 63 #[.int .i64 qi, .int .i64 qa])
  have HLw2 := (below_new w1 (.cells #[.int .i64 qi, .int .i64 qa] 63))
  have hsw2 : (w1.alloc (.cells #[.int .i64 qi, .int .i64 qa] 63)).heap.size = w1.heap.size + 1 := by simp
  generalize w1.alloc (.cells #[.int .i64 qi, .int .i64 qa] 63) = w2 at HBw2 HLw2 hsw2 ⊢
  replace HBw2 := Lib.hid HBw2
  replace HLw2 := Lib.hid HLw2
  have hlw2 : w1.heap.size < w2.heap.size := by omega
  replace hsw2 := Lib.hid hsw2
  have hb2 := HLw2.out
  clear HBw2 HLw2 hsw2 hlw2
  have HB2 := Lib.hid (HB1.out.trans (hb2.mono hsz1))
  have HW2 := Lib.hid (HW1.out.trans (hb2.mono HW1.out.size))
  have hsz2 : wb.heap.size ≤ w2.heap.size := Nat.le_trans hsz1 hb2.size
  have HX02 := Lib.hid (HX01.out.below hb2 (Nat.lt_of_lt_of_le hxx0 hsz1))
  have HM2 := Lib.hid (HM1.out.now hb2)
  have HR2 := Lib.hid (HR1.out.now hb2)
  have HBs2 := Lib.hid (HBs1.out.now hb2)
  have HRu2 := Lib.hid (HRu1.out.now hb2)
  clear hb2
  cases ok with
  | false =>
    go_wp2_with fail
    exact HFin.out _ _ (HE0.out HOk.out) HW2.out
  | true =>
    have hnode := HK.out.nodes node HOk.out
    have m0 : w2.cell? ⟨w.heap.size, 0, none⟩ = some (vn) := HX02.out.cell 0
    have m1 : w2.cell? ⟨w.heap.size, 1, none⟩ = some (vl) := HX02.out.cell 1
    have m2 : w2.cell? ⟨w.heap.size, 2, none⟩ = some (.slice A n c) := HX02.out.cell 2
    have m3 : w2.cell? ⟨w.heap.size, 3, none⟩ = some (.slice Ab nb cb) := HX02.out.cell 3
    go_wp2_with fail
    go_loopw [9, 25] (fun v i wr => ∃ (k : Nat) (acc : List Ed), k ≤ n ∧ i = .int .i64 k ∧ OwnE wr wb.heap.size v acc ∧ egR runs (rs.drop k) acc = egR runs rs [] ∧ acc.length ≤ k ∧ Below wb.heap.size wb wr) (fun _ i _ => n - (intOf i).toNat)
    case atStart => exact ⟨0, [], by omega, rfl, OwnE.nil _ _, rfl, by simp, HB2.out⟩
    case round =>
      obtain ⟨k, acc, hk, rfl, hO, hF, hal, hbr⟩ := hrel
      obtain ⟨Av, nv, cv, rfl, HLv, hv1, hv2, _⟩ := hO.nam
      have hnv : nv ≤ k := by rw [← HLv.out]; exact hal
      have HO := Lib.hid (hO.row HLv.out)
      have HF := Lib.hid hF
      clear hO hF hal m0 m1 m2 m3
      obtain ⟨wo, rfl⟩ : ∃ wo : World, wo = wr := ⟨_, rfl⟩
      have HBo := Lib.hid (HBb.out.trans (hbr.mono hszb))
      have HWo := Lib.hid (HWb.out.trans (hbr.mono HWb.out.size))
      have hszo : wb.heap.size ≤ wo.heap.size := Nat.le_trans hszb hbr.size
      have HX0o := Lib.hid (HX0b.out.below hbr (Nat.lt_of_lt_of_le hxx0 hszb))
      have HMo := Lib.hid (HMb.out.now hbr)
      have HRo := Lib.hid (HRb.out.now hbr)
      have HBso := Lib.hid (HBsb.out.now hbr)
      have HRuo := Lib.hid (HRub.out.now hbr)
      clear hbr
      have m0 : wo.cell? ⟨w.heap.size, 0, none⟩ = some (vn) := HX0o.out.cell 0
      have m1 : wo.cell? ⟨w.heap.size, 1, none⟩ = some (vl) := HX0o.out.cell 1
      have m2 : wo.cell? ⟨w.heap.size, 2, none⟩ = some (.slice A n c) := HX0o.out.cell 2
      have m3 : wo.cell? ⟨w.heap.size, 3, none⟩ = some (.slice Ab nb cb) := HX0o.out.cell 3
      by_cases hlt : k < n
      · obtain ⟨ad, rfl, hab, hcs⟩ := strs_at HRo.out (fun _ => rfl) HL.out hlt rn0
        have HF1 := Lib.hid (HF.out.symm.trans (egR_at (runs := runs) (acc := acc) (by rw [HL.out]; exact hlt))).symm
        have hgr := HRs.out k hlt
        generalize rs.getD k rn0 = b at *
        obtain ⟨id, op, fr, tt, gr, zn, ln⟩ := b
        have HCs : Hid (∀ j u, ([.int .i64 id, .int .i64 op, .int .i64 fr, .int .i64 tt, .int .i64 gr, .int .i64 zn, .int .i64 ln] : List Value)[j]? = some u → wo.cell? ((ad.add (k * 7)).add j) = some u) := hcs
        simp only at hgr HF1
        clear hcs m0 m1 m2 m3
        go_upto_region 8 with (refine wpList_load_at 55 (.tmp 27) rfl rfl (ad.add (k * 7)) rfl [.int .i64 id, .int .i64 op, .int .i64 fr, .int .i64 tt, .int .i64 gr, .int .i64 zn, .int .i64 ln] HCs.out _ Try.underlying55 rfl (by kernel_rfl) ?_)
        have HBw3 := (Blk.new wo 55 #[.int .i64 id, .int .i64 op, .int .i64 fr, .int .i64 tt, .int .i64 gr, .int .i64 zn, .int .i64 ln])
        have HLw3 := (below_new wo (.cells #[.int .i64 id, .int .i64 op, .int .i64 fr, .int .i64 tt, .int .i64 gr, .int .i64 zn, .int .i64 ln] 55))
        have hsw3 : (wo.alloc (.cells #[.int .i64 id, .int .i64 op, .int .i64 fr, .int .i64 tt, .int .i64 gr, .int .i64 zn, .int .i64 ln] 55)).heap.size = wo.heap.size + 1 := by simp
        generalize wo.alloc (.cells #[.int .i64 id, .int .i64 op, .int .i64 fr, .int .i64 tt, .int .i64 gr, .int .i64 zn, .int .i64 ln] 55) = w3 at HBw3 HLw3 hsw3 ⊢
        replace HBw3 := Lib.hid HBw3
        replace HLw3 := Lib.hid HLw3
        have hlw3 : wo.heap.size < w3.heap.size := by omega
        replace hsw3 := Lib.hid hsw3
        have hb3 := HLw3.out
        have HY3 := HBw3
        clear HBw3 HLw3 hsw3 hlw3
        have HB3 := Lib.hid (HBo.out.trans (hb3.mono hszo))
        have HW3 := Lib.hid (HWo.out.trans (hb3.mono HWo.out.size))
        have hsz3 : wb.heap.size ≤ w3.heap.size := Nat.le_trans hszo hb3.size
        have HX03 := Lib.hid (HX0o.out.below hb3 (Nat.lt_of_lt_of_le hxx0 hszo))
        have HM3 := Lib.hid (HMo.out.now hb3)
        have HR3 := Lib.hid (HRo.out.now hb3)
        have HBs3 := Lib.hid (HBso.out.now hb3)
        have HRu3 := Lib.hid (HRuo.out.now hb3)
        have HO3 := Lib.hid (own_below HO.out hb3 (Nat.le_refl _))
        clear hb3
        have y0 : w3.cell? ⟨wo.heap.size, 0, none⟩ = some (.int .i64 id) := HY3.out.cell 0
        have y1 : w3.cell? ⟨wo.heap.size, 1, none⟩ = some (.int .i64 op) := HY3.out.cell 1
        have y2 : w3.cell? ⟨wo.heap.size, 2, none⟩ = some (.int .i64 fr) := HY3.out.cell 2
        have y3 : w3.cell? ⟨wo.heap.size, 3, none⟩ = some (.int .i64 tt) := HY3.out.cell 3
        have y4 : w3.cell? ⟨wo.heap.size, 4, none⟩ = some (.int .i64 gr) := HY3.out.cell 4
        have y5 : w3.cell? ⟨wo.heap.size, 5, none⟩ = some (.int .i64 zn) := HY3.out.cell 5
        have y6 : w3.cell? ⟨wo.heap.size, 6, none⟩ = some (.int .i64 ln) := HY3.out.cell 6
        obtain ⟨ct, hct⟩ : ∃ b, runs.contains id = b := ⟨_, rfl⟩
        rw [hct] at HF1
        have HCt := Lib.hid hct
        clear hct
        go_wp2_with fail
        with_reducible refine (contains_any Ar nr cr w3.heap.size runs id ct w3 HRu3.out hnr HCt.out).mono ?_
        rintro e w' ⟨rfl, rfl⟩
        cases ct with
        | true =>
          have HF2 : Hid (egR runs (rs.drop (k + 1)) (acc ++ [⟨(nv : Int), fr, tt, (5 - gr) * 500⟩]) = egR runs rs []) := by have h := HF1.out; rw [if_pos rfl, HLv.out] at h; exact h
          go_wp2_with
            (first
             | (at_builtin
                refine wpList_app_lit ei_edge rfl (.tmp 33) (.tmp 45) rfl wb.heap.size (.slice Av nv cv) nv (acc.map Ed.cells).flatten rfl HO3.out 1 rfl rfl (by simp [Value.oneCell']) (by simp only [maxLen]; omega) (by omega) (Nat.le_trans hszb hsz3) ?_
                intro v9 w9 hown9 hb9 hg9 hat9
                have HO9 : Hid (OwnE w9 wb.heap.size v9 (acc ++ [⟨(nv : Int), fr, tt, (5 - gr) * 500⟩])) := hide (OwnE.snoc hown9 (by rw [HLv.out]) rfl)
                have HB9 := Lib.hid (HB3.out.trans (hb9.mono (Nat.le_refl _)))
                clear hown9 hb9 hg9 hat9))
          go_roundw
          case rel => exact ⟨k + 1, _, by omega, by go_num, HO9.out, HF2.out, by simp [HLv.out]; omega, HB9.out⟩
          case measure => simp [intOf]; omega
        | false =>
          have HF2 : Hid (egR runs (rs.drop (k + 1)) acc = egR runs rs []) := by have h := HF1.out; rw [if_neg (by decide)] at h; exact h
          go_wp2_with fail
          go_roundw
          case rel => exact ⟨k + 1, acc, by omega, by go_num, OwnE.mk' HO3.out HLv.out, HF2.out, by rw [HLv.out]; omega, HB3.out⟩
          case measure => simp [intOf]; omega
      · obtain rfl : k = n := by omega
        have HF1 : Hid (acc = egR runs rs []) := by have h := HF.out; rw [List.drop_of_length_le (by rw [HL.out]; exact Nat.le_refl _)] at h; exact h
        have HF0 : Hid (egB (bs.drop 0) acc = egE rs runs bs) := by show egB bs acc = _; rw [HF1.out]; rfl
        go_wp2_with fail
        clear m0 m1 m2 m3
        go_loopw [9, 51] (fun v i wr => ∃ (q : Nat) (acc : List Ed), q ≤ nb ∧ i = .int .i64 q ∧ OwnE wr wb.heap.size v acc ∧ egB (bs.drop q) acc = egE rs runs bs ∧ acc.length ≤ 64 + q ∧ Below wb.heap.size wb wr) (fun _ i _ => nb - (intOf i).toNat)
        case atStart => exact ⟨0, acc, by omega, rfl, OwnE.mk' HO.out HLv.out, HF0.out, by rw [HLv.out]; omega, HBo.out⟩
        case round =>
          clear HBo HWo hszo HX0o HMo HRo HBso HRuo HO HF HF1 HF0 HLv
          obtain ⟨q, acc, hq, rfl, hO, hF, hal, hbr⟩ := hrel
          obtain ⟨Av, nv, cv, rfl, HLv, hv1, hv2, hsv⟩ := hO.nam
          have hnv : nv ≤ 64 + q := by rw [← HLv.out]; exact hal
          have HO := Lib.hid (hO.row HLv.out)
          have HSv := Lib.hid hsv
          have HF := Lib.hid hF
          have hv2' := hv2
          simp only [maxLen] at hv2'
          clear hO hF hal hsv
          obtain ⟨wo, rfl⟩ : ∃ wo : World, wo = wr := ⟨_, rfl⟩
          have HBo := Lib.hid (HBb.out.trans (hbr.mono hszb))
          have HWo := Lib.hid (HWb.out.trans (hbr.mono HWb.out.size))
          have hszo : wb.heap.size ≤ wo.heap.size := Nat.le_trans hszb hbr.size
          have HX0o := Lib.hid (HX0b.out.below hbr (Nat.lt_of_lt_of_le hxx0 hszb))
          have HMo := Lib.hid (HMb.out.now hbr)
          have HRo := Lib.hid (HRb.out.now hbr)
          have HBso := Lib.hid (HBsb.out.now hbr)
          have HRuo := Lib.hid (HRub.out.now hbr)
          clear hbr
          have m0 : wo.cell? ⟨w.heap.size, 0, none⟩ = some (vn) := HX0o.out.cell 0
          have m1 : wo.cell? ⟨w.heap.size, 1, none⟩ = some (vl) := HX0o.out.cell 1
          have m2 : wo.cell? ⟨w.heap.size, 2, none⟩ = some (.slice A k c) := HX0o.out.cell 2
          have m3 : wo.cell? ⟨w.heap.size, 3, none⟩ = some (.slice Ab nb cb) := HX0o.out.cell 3
          by_cases hlt2 : q < nb
          · obtain ⟨ad, rfl, hab, hc⟩ := HBso.out.int hlt2
            have HF1 := Lib.hid (HF.out.symm.trans (egB_at (acc := acc) (by rw [HLb.out]; exact hlt2))).symm
            generalize bs.getD q 0 = b at *
            have cb0 : wo.cell? (ad.add q) = some (.int .i64 b) := hc
            clear hc m0 m1 m2 m3
            have HF2 : Hid (egB (bs.drop (q + 1)) (acc ++ [⟨(nv : Int), b, 0, 1000000⟩]) = egE rs runs bs) := by have h := HF1.out; rw [HLv.out] at h; exact h
            go_wp2_with
              (first
               | (at_builtin
                  refine wpList_app_lit ei_edge rfl (.tmp 55) (.tmp 60) rfl wb.heap.size (.slice Av nv cv) nv (acc.map Ed.cells).flatten rfl HO.out 1 rfl rfl (by simp [Value.oneCell']) (by simp only [maxLen]; omega) (by omega) (Nat.le_trans hszb hszo) ?_
                  intro v9 w9 hown9 hb9 hg9 hat9
                  have HO9 : Hid (OwnE w9 wb.heap.size v9 (acc ++ [⟨(nv : Int), b, 0, 1000000⟩])) := hide (OwnE.snoc hown9 (by rw [HLv.out]) rfl)
                  have HB9 := Lib.hid (HBo.out.trans (hb9.mono (Nat.le_refl _)))
                  clear hown9 hb9 hg9 hat9))
            go_roundw
            case rel => exact ⟨q + 1, _, by omega, by go_num, HO9.out, HF2.out, by simp [HLv.out]; omega, HB9.out⟩
            case measure => simp [intOf]; omega
          · obtain rfl : q = nb := by omega
            have HF1 : Hid (acc = egE rs runs bs) := by have h := HF.out; rw [List.drop_of_length_le (by rw [HLb.out]; exact Nat.le_refl _)] at h; exact h
            have HEd := Lib.hid (HK.out.edges runs).1
            rw [← HF1.out] at HE1 HEd
            go_wp2_with fail
            with_reducible refine (max_any Av nv cv acc node 0 wo HSv.out HLv.out hv1 hv2 (by omega) (by omega) (by omega) (by omega) HEd.out).mono ?_
            rintro e w5 ⟨M, hM, rfl, hb5⟩
            have HV := Lib.hid (HE1.out HOk.out M hM)
            have HW5 := Lib.hid (HWo.out.trans (hb5.mono HWo.out.size))
            clear hb5 hM
            go_wp2_with fail
            exact HFin.out _ _ HV.out HW5.out

set_option maxRecDepth 100000 in
set_option maxHeartbeats 4000000 in
theorem empty_any (vn vl vr vb : Value) (Ar : Option Addr) (nr cr : Nat) (nd : List Nd) (rs : List Rn) (bs runs : List Int) (node people : Int) (w : World) (hm : StrV Nd.cells 2 w w.heap.size vn nd) (hr : StrV Rn.cells 7 w w.heap.size vr rs) (hb : RowV w w.heap.size vb bs)
    (hru : Ints w w.heap.size Ar nr runs) (hnr : nr ≤ maxLen) (hok : EgOK nd rs bs) :
    Calls Try.prog 24 #[.agg #[vn, vl, vr, vb], .slice Ar nr cr, .int .i64 node, .int .i64 people] w (EmR nd rs bs runs node people w) := by
  have HC : Hid (∀ W, Below w.heap.size w W → Calls Try.prog 22 #[.agg #[vn, vl, vr, vb], .slice Ar nr cr, .int .i64 node] W (EgR nd rs bs runs node W)) := fun W h => egress_any vn vl vr vb Ar nr cr nd rs bs runs node W (hm.now h) (hr.now h) (hb.now h) (hru.now h) hnr hok
  have HK := Lib.hid hok
  have HFin : Hid (∀ (r : Int) (w' : World), (∀ M, EgV nd rs bs runs node M → r = emptyV people M) → Below w.heap.size w w' → EmR nd rs bs runs node people w (.returned (.int .i64 r)) w') := fun r w' h1 h2 => ⟨r, h1, rfl, h2⟩
  generalize EmR nd rs bs runs node people w = RR at *
  clear hm hr hb hru hok
  have HN : Hid (people < 0 ∨ 1000000 < people → ∀ M, emptyV people M = -1) := fun h M => by unfold emptyV; rw [if_pos h]
  by_cases h0 : people < 0
  · have d0 : decide (people < 0) = true := decide_eq_true h0
    go_enter Try.func24, Try.ntmps24
    go_wp2_with fail
    have HBwb := (Blk.new w 44 #[vn, vl, vr, vb])
    have HLwb := (below_new w (.cells #[vn, vl, vr, vb] 44))
    have hswb : (w.alloc (.cells #[vn, vl, vr, vb] 44)).heap.size = w.heap.size + 1 := by simp
    generalize w.alloc (.cells #[vn, vl, vr, vb] 44) = wb at HBwb HLwb hswb ⊢
    replace HBwb := Lib.hid HBwb
    replace HLwb := Lib.hid HLwb
    have hlwb : w.heap.size < wb.heap.size := by omega
    replace hswb := Lib.hid hswb
    have HWb := Lib.hid (HLwb.out)
    have hl0 : w.heap.size ≤ wb.heap.size := HWb.out.size
    have HBb : Hid (Below wb.heap.size wb wb) := hide (Below.refl _ _)
    have hszb : wb.heap.size ≤ wb.heap.size := Nat.le_refl _
    have HX0b : Hid (Blk wb w.heap.size 44 #[vn, vl, vr, vb]) := hide HBwb.out
    have hxx0 : w.heap.size < wb.heap.size := HX0b.out.lt
    clear HBwb HLwb hswb hlwb
    exact HFin.out _ _ (fun M _ => (HN.out (.inl h0) M).symm) HWb.out
  have d0 : decide (people < 0) = false := decide_eq_false h0
  by_cases h1 : 1000000 < people
  · have d1 : decide (people > 1000000) = true := decide_eq_true h1
    go_enter Try.func24, Try.ntmps24
    go_wp2_with fail
    have HBwb := (Blk.new w 44 #[vn, vl, vr, vb])
    have HLwb := (below_new w (.cells #[vn, vl, vr, vb] 44))
    have hswb : (w.alloc (.cells #[vn, vl, vr, vb] 44)).heap.size = w.heap.size + 1 := by simp
    generalize w.alloc (.cells #[vn, vl, vr, vb] 44) = wb at HBwb HLwb hswb ⊢
    replace HBwb := Lib.hid HBwb
    replace HLwb := Lib.hid HLwb
    have hlwb : w.heap.size < wb.heap.size := by omega
    replace hswb := Lib.hid hswb
    have HWb := Lib.hid (HLwb.out)
    have hl0 : w.heap.size ≤ wb.heap.size := HWb.out.size
    have HBb : Hid (Below wb.heap.size wb wb) := hide (Below.refl _ _)
    have hszb : wb.heap.size ≤ wb.heap.size := Nat.le_refl _
    have HX0b : Hid (Blk wb w.heap.size 44 #[vn, vl, vr, vb]) := hide HBwb.out
    have hxx0 : w.heap.size < wb.heap.size := HX0b.out.lt
    clear HBwb HLwb hswb hlwb
    exact HFin.out _ _ (fun M _ => (HN.out (.inr h1) M).symm) HWb.out
  have d1 : decide (people > 1000000) = false := decide_eq_false h1
  by_cases h2 : people = 0
  · subst h2
    go_enter Try.func24, Try.ntmps24
    go_wp2_with fail
    have HBwb := (Blk.new w 44 #[vn, vl, vr, vb])
    have HLwb := (below_new w (.cells #[vn, vl, vr, vb] 44))
    have hswb : (w.alloc (.cells #[vn, vl, vr, vb] 44)).heap.size = w.heap.size + 1 := by simp
    generalize w.alloc (.cells #[vn, vl, vr, vb] 44) = wb at HBwb HLwb hswb ⊢
    replace HBwb := Lib.hid HBwb
    replace HLwb := Lib.hid HLwb
    have hlwb : w.heap.size < wb.heap.size := by omega
    replace hswb := Lib.hid hswb
    have HWb := Lib.hid (HLwb.out)
    have hl0 : w.heap.size ≤ wb.heap.size := HWb.out.size
    have HBb : Hid (Below wb.heap.size wb wb) := hide (Below.refl _ _)
    have hszb : wb.heap.size ≤ wb.heap.size := Nat.le_refl _
    have HX0b : Hid (Blk wb w.heap.size 44 #[vn, vl, vr, vb]) := hide HBwb.out
    have hxx0 : w.heap.size < wb.heap.size := HX0b.out.lt
    clear HBwb HLwb hswb hlwb
    exact HFin.out _ _ (fun M _ => by unfold emptyV; rw [if_neg (by omega), if_pos rfl]) HWb.out
  have d2 : (people == 0) = false := beq_eq_false_iff_ne.2 h2
  go_enter Try.func24, Try.ntmps24
  go_wp2_with fail
  have HBwb := (Blk.new w 44 #[vn, vl, vr, vb])
  have HLwb := (below_new w (.cells #[vn, vl, vr, vb] 44))
  have hswb : (w.alloc (.cells #[vn, vl, vr, vb] 44)).heap.size = w.heap.size + 1 := by simp
  generalize w.alloc (.cells #[vn, vl, vr, vb] 44) = wb at HBwb HLwb hswb ⊢
  replace HBwb := Lib.hid HBwb
  replace HLwb := Lib.hid HLwb
  have hlwb : w.heap.size < wb.heap.size := by omega
  replace hswb := Lib.hid hswb
  have HWb := Lib.hid (HLwb.out)
  have hl0 : w.heap.size ≤ wb.heap.size := HWb.out.size
  have HBb : Hid (Below wb.heap.size wb wb) := hide (Below.refl _ _)
  have hszb : wb.heap.size ≤ wb.heap.size := Nat.le_refl _
  have HX0b : Hid (Blk wb w.heap.size 44 #[vn, vl, vr, vb]) := hide HBwb.out
  have hxx0 : w.heap.size < wb.heap.size := HX0b.out.lt
  clear HBwb HLwb hswb hlwb
  go_wp2_with
    (first
     | (refine wpList_load_g 44 (.tmp 18) rfl rfl w.heap.size rfl _ _ HX0b.out _ Try.underlying44 rfl (by kernel_rfl) ?_))
  with_reducible refine (HC.out wb HWb.out).mono ?_
  rintro e w1 ⟨M, hM, rfl, hb1⟩
  have HB1 := Lib.hid (HBb.out.trans (hb1.mono hszb))
  have HW1 := Lib.hid (HWb.out.trans (hb1.mono HWb.out.size))
  have hsz1 : wb.heap.size ≤ w1.heap.size := Nat.le_trans hszb hb1.size
  have HX01 := Lib.hid (HX0b.out.below hb1 (Nat.lt_of_lt_of_le hxx0 hszb))
  clear hb1
  have hbd := hM.bound HK.out
  have HMv := Lib.hid hM
  clear hM
  by_cases h3 : M = 0
  · have d3 : (M == 0) = true := beq_iff_eq.2 h3
    have HE : Hid (∀ M', EgV nd rs bs runs node M' → (-1 : Int) = emptyV people M') := fun M' h' => by
      rw [← HMv.out.unique h']
      unfold emptyV
      rw [if_neg (by omega), if_neg h2, if_pos h3]
    clear h3
    go_wp2_with fail
    exact HFin.out _ _ HE.out HW1.out
  · have d3 : (M == 0) = false := beq_eq_false_iff_ne.2 h3
    have hM1 : 0 < M := by omega
    have HE : Hid (∀ M', EgV nd rs bs runs node M' → (people * 3600 + M - 1) / M = emptyV people M') := fun M' h' => by
      rw [← HMv.out.unique h']
      unfold emptyV
      rw [if_neg (by omega), if_neg h2, if_neg h3]
    go_wp2_with fail
    exact HFin.out _ _ HE.out HW1.out
end Go.Proofs.Ytihmboibpjfohaa
