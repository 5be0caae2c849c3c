/-
  GroomerOthers, walked: Send succeeds, Groom fails.
-/
import Derived.Test.YtegijfmdjaehjaaGruO
namespace Go.Proofs.Ytegijfmdjaehjaa
open Go.RowKit

set_option maxRecDepth 100000 in
set_option maxHeartbeats 40000000 in
theorem others_true_false (w : World) (vn vl vr vb : Value) (nd : List Nd) (lf : List Lf) (rs : List Rn) (bs : List Int) (hnd : StrV Nd.cells 2 w w.heap.size vn nd) (hlf : StrV Lf.cells 8 w w.heap.size vl lf) (hrs : StrV Rn.cells 7 w w.heap.size vr rs) (hbs : RowV w w.heap.size vb bs) (v : Value) (l : List Gr) (hv : GrV w w.heap.size v l) (gi tgt rg s_ : Int) (x0 x1 : Int) (hqa : ((sendG (fun u => wayO nd lf rs u tgt) l gi tgt x0).2 == 0) = true) (hqb : ((groomG rs l gi rg s_ x0).2 == 0) = false) :
    Calls Try.prog 10 #[.agg #[vn, vl, vr, vb], v, .int .i64 gi, .int .i64 tgt, .int .i64 rg, .int .i64 s_, .agg #[.int .i64 x0, .int .i64 x1]] w fun e w' => e = .returned (.bool true) ∧ Below w.heap.size w w' := by
  have HM := Lib.hid hnd
  have HL := Lib.hid hlf
  have HR := Lib.hid hrs
  have HS := Lib.hid hbs
  obtain ⟨A, n, c, rfl, HN, hc1, hc2, hr⟩ := hv.nam
  have HV := Lib.hid hv
  have hm := Int.ofNat_le.2 (show n ≤ maxLen by omega)
  clear hv hr hnd hlf hrs hbs
  go_enter Try.func10, Try.ntmps10
  go_wp2_with fail
  have HBwz0 := (Blk.new w 32 #[vn, vl, vr, vb])
  have HLwz0 := (below_new w (.cells #[vn, vl, vr, vb] 32))
  have hswz0 : (w.alloc (.cells #[vn, vl, vr, vb] 32)).heap.size = w.heap.size + 1 := by simp
  generalize w.alloc (.cells #[vn, vl, vr, vb] 32) = wz0 at HBwz0 HLwz0 hswz0 ⊢
  replace HBwz0 := Lib.hid HBwz0
  replace HLwz0 := Lib.hid HLwz0
  have hlwz0 : w.heap.size < wz0.heap.size := by omega
  replace hswz0 := Lib.hid hswz0
  have HBwb := (Blk.new wz0 49 #[.int .i64 x0, .int .i64 x1])
  have HLwb := (below_new wz0 (.cells #[.int .i64 x0, .int .i64 x1] 49))
  have hswb : (wz0.alloc (.cells #[.int .i64 x0, .int .i64 x1] 49)).heap.size = wz0.heap.size + 1 := by simp
  generalize wz0.alloc (.cells #[.int .i64 x0, .int .i64 x1] 49) = wb at HBwb HLwb hswb ⊢
  replace HBwb := Lib.hid HBwb
  replace HLwb := Lib.hid HLwb
  have hlwb : wz0.heap.size < wb.heap.size := by omega
  replace hswb := Lib.hid hswb
  have HQ1 := Lib.hid (HLwz0.out.trans (HLwb.out.mono HLwz0.out.size))
  have HWb := Lib.hid (HQ1.out)
  have hl0 : w.heap.size ≤ wb.heap.size := HWb.out.size
  have HBb : Hid (Below wb.heap.size wb wb) := hide (Below.refl _ _)
  have hszb : wb.heap.size ≤ wb.heap.size := Nat.le_refl _
  have HZ0_1 := Lib.hid (HBwz0.out.below HLwb.out hlwz0)
  have hz0_1 : w.heap.size < wb.heap.size := HZ0_1.out.lt
  have HX0b : Hid (Blk wb w.heap.size 32 #[vn, vl, vr, vb]) := hide HZ0_1.out
  have hxx0 : w.heap.size < wb.heap.size := HX0b.out.lt
  have HX1b : Hid (Blk wb (w.heap.size + 1) 49 #[.int .i64 x0, .int .i64 x1]) := hide (by have h := HBwb.out; rw [show wz0.heap.size = w.heap.size + 1 from by have := hswz0.out; omega] at h; exact h)
  have hxx1 : (w.heap.size + 1) < wb.heap.size := HX1b.out.lt
  clear HBwz0 HLwz0 hswz0 hlwz0
  clear HBwb HLwb hswb hlwb
  have HMb := Lib.hid (HM.out.now HWb.out)
  have HLb := Lib.hid (HL.out.now HWb.out)
  have HRb := Lib.hid (HR.out.now HWb.out)
  have HSb := Lib.hid (HS.out.now HWb.out)
  have HVb := Lib.hid (HV.out.now HWb.out)
  with_reducible refine (alive_any _).mono ?_
  rintro e w1 ⟨rfl, hb1⟩
  have HB1 := Lib.hid (HBb.out.trans (hb1.mono hszb))
  have HW1 := Lib.hid (HWb.out.trans (hb1.mono HWb.out.size))
  have hsz1 : wb.heap.size ≤ w1.heap.size := Nat.le_trans hszb hb1.size
  have HX01 := Lib.hid (HX0b.out.below hb1 (Nat.lt_of_lt_of_le hxx0 hszb))
  have HX11 := Lib.hid (HX1b.out.below hb1 (Nat.lt_of_lt_of_le hxx1 hszb))
  have HM1 := Lib.hid (HMb.out.now hb1)
  have HL1 := Lib.hid (HLb.out.now hb1)
  have HR1 := Lib.hid (HRb.out.now hb1)
  have HS1 := Lib.hid (HSb.out.now hb1)
  have HV1 := Lib.hid (HVb.out.now hb1)
  clear hb1
  go_wp2_with
    (first
     | (refine wpList_load_g 32 (.tmp 7) rfl rfl w.heap.size rfl _ _ HX01.out _ Try.underlying32 rfl (by kernel_rfl) ?_))
  with_reducible refine (tright_any vn vl vr vb nd lf rs bs _ HM1.out HL1.out HR1.out HS1.out).mono ?_
  rintro e w2 ⟨r2, rfl, hr2, hb2⟩
  have HP := Lib.hid hr2
  clear hr2
  have HB2 := Lib.hid (HB1.out.trans (hb2.mono hsz1))
  have HW2 := Lib.hid (HW1.out.trans (hb2.mono HW1.out.size))
  have hsz2 : wb.heap.size ≤ w2.heap.size := Nat.le_trans hsz1 hb2.size
  have HX02 := Lib.hid (HX01.out.below hb2 (Nat.lt_of_lt_of_le hxx0 hsz1))
  have HX12 := Lib.hid (HX11.out.below hb2 (Nat.lt_of_lt_of_le hxx1 hsz1))
  have HM2 := Lib.hid (HM1.out.now hb2)
  have HL2 := Lib.hid (HL1.out.now hb2)
  have HR2 := Lib.hid (HR1.out.now hb2)
  have HS2 := Lib.hid (HS1.out.now hb2)
  have HV2 := Lib.hid (HV1.out.now hb2)
  clear hb2
  by_cases z2 : r2 = 0
  rotate_left
  · have d0 : (r2 != 0) = true := bne_iff_ne.2 z2
    go_wp2_with fail
    try go_ret
    exact ⟨rfl, HW2.out⟩
  have HMk := Lib.hid (HP.out z2)
  clear HP
  subst z2
  obtain ⟨rr, hrr⟩ : ∃ r : Int, ((rightG l : Nat) : Int) = r := ⟨_, rfl⟩
  have HOk0 : Hid (rr = 0 → OkG l) := fun h => right_okG.1 (by omega)
  have HCr : Hid (∀ W, GrV W W.heap.size (.slice A n c) l → Calls Try.prog 12 #[.slice A n c] W fun e w' => e = .returned (.int .i64 rr) ∧ Below W.heap.size W w') := fun W h => by rw [← hrr]; exact gright_any _ l W h
  clear hrr
  go_wp2_with fail
  with_reducible refine (HCr.out _ HV2.out).mono ?_
  rintro e w3 ⟨rfl, hb3⟩
  have HB3 := Lib.hid (HB2.out.trans (hb3.mono hsz2))
  have HW3 := Lib.hid (HW2.out.trans (hb3.mono HW2.out.size))
  have hsz3 : wb.heap.size ≤ w3.heap.size := Nat.le_trans hsz2 hb3.size
  have HX03 := Lib.hid (HX02.out.below hb3 (Nat.lt_of_lt_of_le hxx0 hsz2))
  have HX13 := Lib.hid (HX12.out.below hb3 (Nat.lt_of_lt_of_le hxx1 hsz2))
  have HM3 := Lib.hid (HM2.out.now hb3)
  have HL3 := Lib.hid (HL2.out.now hb3)
  have HR3 := Lib.hid (HR2.out.now hb3)
  have HS3 := Lib.hid (HS2.out.now hb3)
  have HV3 := Lib.hid (HV2.out.now hb3)
  clear hb3
  by_cases z3 : rr = 0
  rotate_left
  · have d0 : (rr != 0) = true := bne_iff_ne.2 z3
    go_wp2_with fail
    try go_ret
    exact ⟨rfl, HW3.out⟩
  have HOk := Lib.hid (HOk0.out z3)
  clear HOk0 HCr
  subst z3
  obtain ⟨⟨la, ca⟩, hra⟩ : ∃ q, sendG (fun u => wayO nd lf rs u tgt) l gi tgt x0 = q := ⟨_, rfl⟩
  obtain ⟨⟨lb, cb⟩, hrb⟩ : ∃ q, groomG rs l gi rg s_ x0 = q := ⟨_, rfl⟩
  rw [hra] at hqa
  rw [hrb] at hqb
  have hqa : (ca == 0) = true := hqa
  have hqb : (cb == 0) = false := hqb
  have hn16 : n ≤ 16 := by rw [← HN.out]; exact HOk.out.len
  obtain ⟨lc, hqc⟩ : ∃ q, tickG rs x1 l = q := ⟨_, rfl⟩
  have HSA : Hid (ca = 0 → SetG l la gi) := fun h => send_set HMk.out HOk.out (by rw [hra, h])
  have HSB : Hid (cb = 0 → SetG l lb gi) := fun h => groom_set HMk.out HOk.out (by rw [hrb, h])
  have HTO : Hid (OkG lc ∧ lc.length = n) := hide (by rw [← hqc]; exact ⟨tick_ok HMk.out HOk.out x1, by rw [tick_len]; exact HN.out⟩)
  have HTK : Hid (∀ k, k < n → (lc.getD k gr0).id = (l.getD k gr0).id ∧ (lc.getD k gr0).win = (l.getD k gr0).win ∧ (lc.getD k gr0).fuel = (l.getD k gr0).fuel) := fun k hk => by rw [← hqc, tick_at rs x1 (by rw [HN.out]; exact hk)]; exact tickX_keep x1 _
  have HC1 : Hid (∀ W : World, StrV Nd.cells 2 W W.heap.size vn nd → StrV Lf.cells 8 W W.heap.size vl lf → StrV Rn.cells 7 W W.heap.size vr rs → GrV W W.heap.size (.slice A n c) l → Calls Try.prog 18 #[.agg #[vn, vl, vr, vb], .slice A n c, .int .i64 gi, .int .i64 tgt, .int .i64 x0] W (GrX la ca W)) := fun W h1 h2 h3 h4 => (gsend_any vn vl vr vb nd lf rs _ l gi tgt x0 W h1 h2 h3 h4 HMk.out.wy HOk.out.inn HOk.out.len).mono fun e w' h => h.grX hra
  have HC2 : Hid (∀ W : World, StrV Nd.cells 2 W W.heap.size vn nd → StrV Lf.cells 8 W W.heap.size vl lf → StrV Rn.cells 7 W W.heap.size vr rs → GrV W W.heap.size (.slice A n c) l → Calls Try.prog 21 #[.agg #[vn, vl, vr, vb], .slice A n c, .int .i64 gi, .int .i64 rg, .int .i64 s_, .int .i64 x0] W (GrX lb cb W)) := fun W h1 h2 h3 h4 => (ggroom_any vn vl vr vb rs _ l gi rg s_ x0 W h3 h4 HOk.out.inn HOk.out.len).mono fun e w' h => h.grX hrb
  have HC3 : Hid (∀ W : World, StrV Nd.cells 2 W W.heap.size vn nd → StrV Lf.cells 8 W W.heap.size vl lf → StrV Rn.cells 7 W W.heap.size vr rs → GrV W W.heap.size (.slice A n c) l → Calls Try.prog 23 #[.agg #[vn, vl, vr, vb], .slice A n c, .int .i64 x1] W fun e w' => ∃ v' f', e = .returned (.tuple #[v', f']) ∧ GrV w' w'.heap.size v' lc ∧ Below W.heap.size W w') := fun W h1 h2 h3 h4 => by
    refine (gtick_any vn vl vr vb rs _ l x1 W h3 h4 HOk.out.len).mono ?_
    rintro e w' ⟨v', f', rfl, k1, _, k3⟩
    rw [hqc] at k1
    exact ⟨v', f', rfl, k1.strV, k3⟩
  have HCo : Hid (∀ (ls : List Gr) (v : Value) (W : World), OkG ls → GrV W W.heap.size v ls → Calls Try.prog 12 #[v] W fun e w' => e = .returned (.int .i64 0) ∧ Below W.heap.size W w') := fun ls v W ho h => by
    refine (gright_any v ls W h).mono ?_
    rintro e w' ⟨rfl, hb⟩
    rw [right_okG.2 ho]
    exact ⟨rfl, hb⟩
  clear hra hrb hqc
  have p0 : w3.cell? ⟨w.heap.size + 1, 0, none⟩ = some (.int .i64 x0) := HX13.out.cell 0
  have p1 : w3.cell? ⟨w.heap.size + 1, 1, none⟩ = some (.int .i64 x1) := HX13.out.cell 1
  go_wp2_with
    (first
     | (refine wpList_load_g 32 (.tmp 7) rfl rfl w.heap.size rfl _ _ HX03.out _ Try.underlying32 rfl (by kernel_rfl) ?_))
  with_reducible refine (HC1.out _ HM3.out HL3.out HR3.out HV3.out).mono ?_
  rintro e w4 ⟨va, rfl, hva, hb4⟩
  have HB4 := Lib.hid (HB3.out.trans (hb4.mono hsz3))
  have HW4 := Lib.hid (HW3.out.trans (hb4.mono HW3.out.size))
  have hsz4 : wb.heap.size ≤ w4.heap.size := Nat.le_trans hsz3 hb4.size
  have HX04 := Lib.hid (HX03.out.below hb4 (Nat.lt_of_lt_of_le hxx0 hsz3))
  have HX14 := Lib.hid (HX13.out.below hb4 (Nat.lt_of_lt_of_le hxx1 hsz3))
  have HM4 := Lib.hid (HM3.out.now hb4)
  have HL4 := Lib.hid (HL3.out.now hb4)
  have HR4 := Lib.hid (HR3.out.now hb4)
  have HS4 := Lib.hid (HS3.out.now hb4)
  have HV4 := Lib.hid (HV3.out.now hb4)
  obtain ⟨Aa, na, ka, rfl, HNa, _, _, _⟩ := hva.nam
  have HA4 := Lib.hid hva
  clear hb4 hva p0 p1
  have p0 : w4.cell? ⟨w.heap.size + 1, 0, none⟩ = some (.int .i64 x0) := HX14.out.cell 0
  have p1 : w4.cell? ⟨w.heap.size + 1, 1, none⟩ = some (.int .i64 x1) := HX14.out.cell 1
  go_wp2_with
    (first
     | (refine wpList_load_g 32 (.tmp 7) rfl rfl w.heap.size rfl _ _ HX04.out _ Try.underlying32 rfl (by kernel_rfl) ?_))
  with_reducible refine (HC2.out _ HM4.out HL4.out HR4.out HV4.out).mono ?_
  rintro e w5 ⟨vb_, rfl, hva, hb5⟩
  have HB5 := Lib.hid (HB4.out.trans (hb5.mono hsz4))
  have HW5 := Lib.hid (HW4.out.trans (hb5.mono HW4.out.size))
  have hsz5 : wb.heap.size ≤ w5.heap.size := Nat.le_trans hsz4 hb5.size
  have HX05 := Lib.hid (HX04.out.below hb5 (Nat.lt_of_lt_of_le hxx0 hsz4))
  have HX15 := Lib.hid (HX14.out.below hb5 (Nat.lt_of_lt_of_le hxx1 hsz4))
  have HM5 := Lib.hid (HM4.out.now hb5)
  have HL5 := Lib.hid (HL4.out.now hb5)
  have HR5 := Lib.hid (HR4.out.now hb5)
  have HS5 := Lib.hid (HS4.out.now hb5)
  have HV5 := Lib.hid (HV4.out.now hb5)
  have HA5 := Lib.hid (HA4.out.now hb5)
  obtain ⟨Ab, nb, kb, rfl, HNb, _, _, _⟩ := hva.nam
  have HY5 := Lib.hid hva
  clear hb5 hva p0 p1
  have p0 : w5.cell? ⟨w.heap.size + 1, 0, none⟩ = some (.int .i64 x0) := HX15.out.cell 0
  have p1 : w5.cell? ⟨w.heap.size + 1, 1, none⟩ = some (.int .i64 x1) := HX15.out.cell 1
  go_wp2_with
    (first
     | (refine wpList_load_g 32 (.tmp 7) rfl rfl w.heap.size rfl _ _ HX05.out _ Try.underlying32 rfl (by kernel_rfl) ?_))
  with_reducible refine (HC3.out _ HM5.out HL5.out HR5.out HV5.out).mono ?_
  rintro e w6 ⟨vc, fc, rfl, hva, hb6⟩
  have HB6 := Lib.hid (HB5.out.trans (hb6.mono hsz5))
  have HW6 := Lib.hid (HW5.out.trans (hb6.mono HW5.out.size))
  have hsz6 : wb.heap.size ≤ w6.heap.size := Nat.le_trans hsz5 hb6.size
  have HX06 := Lib.hid (HX05.out.below hb6 (Nat.lt_of_lt_of_le hxx0 hsz5))
  have HX16 := Lib.hid (HX15.out.below hb6 (Nat.lt_of_lt_of_le hxx1 hsz5))
  have HM6 := Lib.hid (HM5.out.now hb6)
  have HL6 := Lib.hid (HL5.out.now hb6)
  have HR6 := Lib.hid (HR5.out.now hb6)
  have HS6 := Lib.hid (HS5.out.now hb6)
  have HV6 := Lib.hid (HV5.out.now hb6)
  have HA6 := Lib.hid (HA5.out.now hb6)
  have HY6 := Lib.hid (HY5.out.now hb6)
  obtain ⟨Ac, nc, kc, rfl, HNc, _, _, _⟩ := hva.nam
  obtain rfl : nc = n := by rw [← HNc.out, HTO.out.2]
  have HZ6 := Lib.hid hva
  clear hb6 hva p0 p1 HC1 HC2 HC3
  clear HM6 HL6 HR6 HS6
  have HLa : Hid (ca = 0 → na = nc) := fun h => by rw [← HNa.out, (HSA.out h).len, HN.out]
  have HLb : Hid (cb = 0 → nb = nc) := fun h => by rw [← HNb.out, (HSB.out h).len, HN.out]
  have hca := beq_iff_eq.1 hqa
  obtain rfl : nc = na := (HLa.out hca).symm
  go_upto_region 8 with (fail)
  go_cut [102] (fun s wx => s = .bool false ∧ Below w6.heap.size w6 wx)
  case first =>
    have HB6' : Hid (Below w6.heap.size w6 w6) := hide (Below.refl _ _)
    go_wp2_with fail
    with_reducible refine (HCo.out lc _ _ HTO.out.1 HZ6.out).mono ?_
    rintro e w7 ⟨rfl, hb7⟩
    have HA7 := Lib.hid (HA6.out.now hb7)
    have HY7 := Lib.hid (HY6.out.now hb7)
    go_wp2_with fail
    with_reducible refine (HCo.out la _ _ (HSA.out hca).ok HA7.out).mono ?_
    rintro e w8 ⟨rfl, hb8⟩
    have HY8 := Lib.hid (HY7.out.now hb8)
    have hbx := hb7.trans (hb8.mono hb7.size)
    go_wp2_with fail
    go_meet
    exact ⟨rfl, hbx⟩
  obtain ⟨rfl, hcut⟩ := hcut
  obtain ⟨w7, rfl⟩ : ∃ wk : World, wk = wc := ⟨_, rfl⟩
  have HB7 := Lib.hid (HB6.out.trans (hcut.mono hsz6))
  have HW7 := Lib.hid (HW6.out.trans (hcut.mono HW6.out.size))
  have hsz7 : wb.heap.size ≤ w7.heap.size := Nat.le_trans hsz6 hcut.size
  have HV7 := Lib.hid (HV6.out.now hcut)
  have HA7 := Lib.hid (HA6.out.now hcut)
  have HY7 := Lib.hid (HY6.out.now hcut)
  have HZ7 := Lib.hid (HZ6.out.now hcut)
  clear hcut HCo
  go_wp2_with fail
  go_loopw [21] (fun i wr => ∃ k : Nat, k ≤ nc ∧ i = .int .i64 k ∧ Below w7.heap.size w7 wr) (fun i _ => nc - (intOf i).toNat)
  case atStart => exact ⟨0, by omega, rfl, Below.refl _ _⟩
  case round =>
    obtain ⟨k, hk, rfl, hbr⟩ := hrel
    obtain ⟨wo, rfl⟩ : ∃ wo : World, wo = wr := ⟨_, rfl⟩
    have HBo := Lib.hid hbr
    have HVo := Lib.hid (HV7.out.now hbr)
    have HAo := Lib.hid (HA7.out.now hbr)
    have HYo := Lib.hid (HY7.out.now hbr)
    have HZo := Lib.hid (HZ7.out.now hbr)
    have HWo := Lib.hid (HW7.out.trans (hbr.mono HW7.out.size))
    clear hbr
    by_cases hlt : k < nc
    rotate_left
    · have hkn : k = nc := by omega
      subst hkn
      go_wp2_with fail
      try go_ret
      exact ⟨rfl, HWo.out⟩
    have hkl : k < l.length := by rw [HN.out]; exact hlt
    obtain ⟨ad, rfl, hclv⟩ := gr_at HVo.out HN.out hlt
    obtain ⟨ac, rfl, hclc⟩ := gr_at HZo.out HNc.out hlt
    have htk := HTK.out k hlt
    have HEA : Hid (ca = 0 → (l.getD k gr0).id ≠ gi → la.getD k gr0 = l.getD k gr0) := fun h h2 => (HSA.out h).same k hkl h2
    have HEB : Hid (cb = 0 → (l.getD k gr0).id ≠ gi → lb.getD k gr0 = l.getD k gr0) := fun h h2 => (HSB.out h).same k hkl h2
    generalize lc.getD k gr0 = qc at *
    generalize l.getD k gr0 = q at *
    obtain ⟨id, nod, fuel, st, tg, run, til, win⟩ := q
    obtain ⟨cid, cnod, cfuel, cst, ctg, crun, ctil, cwin⟩ := qc
    simp only at htk HEA HEB
    obtain ⟨rfl, rfl, rfl⟩ := htk
    have L0 : ∀ j u, ([.int .i64 cid, .int .i64 nod, .int .i64 cfuel, .int .i64 st, .int .i64 tg, .int .i64 run, .int .i64 til, .bool cwin] : List Value)[j]? = some u → wo.cell? ((ad.add (k * 8)).add j) = some u := hclv
    have f0 : wo.cell? (ad.add (k * 8)) = some (.int .i64 cid) := by
      have h := hclv 0 _ rfl
      rwa [show (ad.add (k * 8)).add 0 = ad.add (k * 8) by unfold Addr.add; simp] at h
    have f2 : wo.cell? ⟨(ad.add (k * 8)).block, (ad.add (k * 8)).off + 2, none⟩ = some (.int .i64 cfuel) := hclv 2 _ rfl
    have f7 : wo.cell? ⟨(ad.add (k * 8)).block, (ad.add (k * 8)).off + 7, none⟩ = some (.bool cwin) := hclv 7 _ rfl
    have g0 : wo.cell? (ac.add (k * 8)) = some (.int .i64 cid) := by
      have h := hclc 0 _ rfl
      rwa [show (ac.add (k * 8)).add 0 = ac.add (k * 8) by unfold Addr.add; simp] at h
    have g2 : wo.cell? ⟨(ac.add (k * 8)).block, (ac.add (k * 8)).off + 2, none⟩ = some (.int .i64 cfuel) := hclc 2 _ rfl
    have g7 : wo.cell? ⟨(ac.add (k * 8)).block, (ac.add (k * 8)).off + 7, none⟩ = some (.bool cwin) := hclc 7 _ rfl
    clear hclv hclc
    have e1 : (cid != cid) = false := by simp
    have e2 : (cfuel != cfuel) = false := by simp
    have e7 : (cwin != cwin) = false := by simp
    by_cases hid : cid = gi
    · have d1 : (cid != gi) = false := by simp [hid]
      clear hid HEA HEB
      go_wp2_with fail
      refine wp_region_held_drew (S := fun W => ((W.cell? (ad.add (k * 8)) = some (.int .i64 cid) ∧ W.cell? ⟨(ad.add (k * 8)).block, (ad.add (k * 8)).off + 2, none⟩ = some (.int .i64 cfuel) ∧ W.cell? ⟨(ad.add (k * 8)).block, (ad.add (k * 8)).off + 7, none⟩ = some (.bool cwin)) ∧ (W.cell? (ac.add (k * 8)) = some (.int .i64 cid) ∧ W.cell? ⟨(ac.add (k * 8)).block, (ac.add (k * 8)).off + 2, none⟩ = some (.int .i64 cfuel) ∧ W.cell? ⟨(ac.add (k * 8)).block, (ac.add (k * 8)).off + 7, none⟩ = some (.bool cwin)))) (by kernel_rfl) (⟨⟨f0, f2, f7⟩, g0, g2, g7⟩) (fun hHeld => ?_)
      refine held_run 0 (some 109) (.move (.tmp 1)) ?v13_1_2 (by rfl) (by kernel_rfl) (by kernel_rfl) (by kernel_rfl) (fun _ _ _ h => h) (fun o ho w hS => ?y13_1_2) (by assumption) ?r13_1_2
      case y13_1_2 => (try dsimp only at hS); unfold execOp; simp only [ho]; go_simp; try with_reducible rfl
      try simp only [Act.put, List.setIfInBounds_toArray, List.set_cons_zero, List.set_cons_succ]
      refine held_run 1 (some 110) (.move (.tmp 21)) ?v13_1_3 (by rfl) (by kernel_rfl) (by kernel_rfl) (by kernel_rfl) (fun _ _ _ h => h) (fun o ho w hS => ?y13_1_3) (by assumption) ?r13_1_3
      case y13_1_3 => (try dsimp only at hS); unfold execOp; simp only [ho]; go_simp; try with_reducible rfl
      try simp only [Act.put, List.setIfInBounds_toArray, List.set_cons_zero, List.set_cons_succ]
      refine held_run 2 (some 111) (.indexAddr 22 (.tmp 109) (.tmp 110)) ?v13_1_4 (by rfl) (by kernel_rfl) (by kernel_rfl) (by kernel_rfl) (fun _ _ _ h => h) (fun o ho w hS => ?y13_1_4) (by assumption) ?r13_1_4
      case y13_1_4 => (try dsimp only at hS); unfold execOp; simp only [ho]; go_simp; try with_reducible rfl
      try simp only [Act.put, List.setIfInBounds_toArray, List.set_cons_zero, List.set_cons_succ]
      refine held_run 3 (some 112) (.fieldAddr 51 (.tmp 111) 0) ?v13_1_5 (by rfl) (by kernel_rfl) (by kernel_rfl) (by kernel_rfl) (fun _ _ _ h => h) (fun o ho w hS => ?y13_1_5) (by assumption) ?r13_1_5
      case y13_1_5 => (try dsimp only at hS); unfold execOp; simp only [ho]; go_simp; try with_reducible rfl
      try simp only [Act.put, List.setIfInBounds_toArray, List.set_cons_zero, List.set_cons_succ]
      refine held_run 4 (some 113) (.load 3 (.tmp 112)) ?v13_1_6 (by rfl) (by kernel_rfl) (by kernel_rfl) (by kernel_rfl) (fun _ _ _ h => h) (fun o ho w hS => ?y13_1_6) (by assumption) ?r13_1_6
      case y13_1_6 => (try dsimp only at hS); unfold execOp; simp only [ho]; go_simp; try with_reducible rfl
      try simp only [Act.put, List.setIfInBounds_toArray, List.set_cons_zero, List.set_cons_succ]
      refine held_run 5 (some 114) (.move (.tmp 2)) ?v13_1_7 (by rfl) (by kernel_rfl) (by kernel_rfl) (by kernel_rfl) (fun _ _ _ h => h) (fun o ho w hS => ?y13_1_7) (by assumption) ?r13_1_7
      case y13_1_7 => (try dsimp only at hS); unfold execOp; simp only [ho]; go_simp; try with_reducible rfl
      try simp only [Act.put, List.setIfInBounds_toArray, List.set_cons_zero, List.set_cons_succ]
      refine held_run 6 (some 115) (.binOp .neq 3 (.tmp 113) (.tmp 114) 3) ?v13_1_8 (by rfl) (by kernel_rfl) (by kernel_rfl) (by kernel_rfl) (fun _ _ _ h => h) (fun o ho w hS => ?y13_1_8) (by assumption) ?r13_1_8
      case y13_1_8 => (try dsimp only at hS); unfold execOp; simp only [ho]; go_simp; try with_reducible rfl
      try simp only [Act.put, List.setIfInBounds_toArray, List.set_cons_zero, List.set_cons_succ]
      refine held_run 7 (some 116) (.move (.tmp 115)) ?v13_1_9 (by rfl) (by kernel_rfl) (by kernel_rfl) (by kernel_rfl) (fun _ _ _ h => h) (fun o ho w hS => ?y13_1_9) (by assumption) ?r13_1_9
      case y13_1_9 => (try dsimp only at hS); unfold execOp; simp only [ho]; go_simp; try with_reducible rfl
      try simp only [Act.put, List.setIfInBounds_toArray, List.set_cons_zero, List.set_cons_succ]
      refine held_skip 8 (some 117) (by rfl) (by kernel_rfl) (by kernel_rfl) (by kernel_rfl) (fun _ _ _ h => h) (by assumption) ?_
      try simp only [Act.put, List.setIfInBounds_toArray, List.set_cons_zero, List.set_cons_succ]
      refine held_skip 9 (some 118) (by rfl) (by kernel_rfl) (by kernel_rfl) (by kernel_rfl) (fun _ _ _ h => h) (by assumption) ?_
      try simp only [Act.put, List.setIfInBounds_toArray, List.set_cons_zero, List.set_cons_succ]
      refine held_skip 10 (some 119) (by rfl) (by kernel_rfl) (by kernel_rfl) (by kernel_rfl) (fun _ _ _ h => h) (by assumption) ?_
      try simp only [Act.put, List.setIfInBounds_toArray, List.set_cons_zero, List.set_cons_succ]
      refine held_skip 11 (some 120) (by rfl) (by kernel_rfl) (by kernel_rfl) (by kernel_rfl) (fun _ _ _ h => h) (by assumption) ?_
      try simp only [Act.put, List.setIfInBounds_toArray, List.set_cons_zero, List.set_cons_succ]
      refine held_skip 12 (some 121) (by rfl) (by kernel_rfl) (by kernel_rfl) (by kernel_rfl) (fun _ _ _ h => h) (by assumption) ?_
      try simp only [Act.put, List.setIfInBounds_toArray, List.set_cons_zero, List.set_cons_succ]
      refine held_skip 13 (some 122) (by rfl) (by kernel_rfl) (by kernel_rfl) (by kernel_rfl) (fun _ _ _ h => h) (by assumption) ?_
      try simp only [Act.put, List.setIfInBounds_toArray, List.set_cons_zero, List.set_cons_succ]
      refine held_skip 14 (some 123) (by rfl) (by kernel_rfl) (by kernel_rfl) (by kernel_rfl) (fun _ _ _ h => h) (by assumption) ?_
      try simp only [Act.put, List.setIfInBounds_toArray, List.set_cons_zero, List.set_cons_succ]
      refine held_skip 15 (some 124) (by rfl) (by kernel_rfl) (by kernel_rfl) (by kernel_rfl) (fun _ _ _ h => h) (by assumption) ?_
      try simp only [Act.put, List.setIfInBounds_toArray, List.set_cons_zero, List.set_cons_succ]
      refine held_skip 16 (some 125) (by rfl) (by kernel_rfl) (by kernel_rfl) (by kernel_rfl) (fun _ _ _ h => h) (by assumption) ?_
      try simp only [Act.put, List.setIfInBounds_toArray, List.set_cons_zero, List.set_cons_succ]
      refine held_skip 17 (some 126) (by rfl) (by kernel_rfl) (by kernel_rfl) (by kernel_rfl) (fun _ _ _ h => h) (by assumption) ?_
      try simp only [Act.put, List.setIfInBounds_toArray, List.set_cons_zero, List.set_cons_succ]
      refine held_skip 18 (some 127) (by rfl) (by kernel_rfl) (by kernel_rfl) (by kernel_rfl) (fun _ _ _ h => h) (by assumption) ?_
      try simp only [Act.put, List.setIfInBounds_toArray, List.set_cons_zero, List.set_cons_succ]
      refine held_skip 19 (some 128) (by rfl) (by kernel_rfl) (by kernel_rfl) (by kernel_rfl) (fun _ _ _ h => h) (by assumption) ?_
      try simp only [Act.put, List.setIfInBounds_toArray, List.set_cons_zero, List.set_cons_succ]
      refine held_skip 20 (some 129) (by rfl) (by kernel_rfl) (by kernel_rfl) (by kernel_rfl) (fun _ _ _ h => h) (by assumption) ?_
      try simp only [Act.put, List.setIfInBounds_toArray, List.set_cons_zero, List.set_cons_succ]
      refine held_skip 21 (some 130) (by rfl) (by kernel_rfl) (by kernel_rfl) (by kernel_rfl) (fun _ _ _ h => h) (by assumption) ?_
      try simp only [Act.put, List.setIfInBounds_toArray, List.set_cons_zero, List.set_cons_succ]
      refine held_skip 22 (some 131) (by rfl) (by kernel_rfl) (by kernel_rfl) (by kernel_rfl) (fun _ _ _ h => h) (by assumption) ?_
      try simp only [Act.put, List.setIfInBounds_toArray, List.set_cons_zero, List.set_cons_succ]
      refine held_skip 23 (some 132) (by rfl) (by kernel_rfl) (by kernel_rfl) (by kernel_rfl) (fun _ _ _ h => h) (by assumption) ?_
      try simp only [Act.put, List.setIfInBounds_toArray, List.set_cons_zero, List.set_cons_succ]
      refine held_skip 24 (some 133) (by rfl) (by kernel_rfl) (by kernel_rfl) (by kernel_rfl) (fun _ _ _ h => h) (by assumption) ?_
      try simp only [Act.put, List.setIfInBounds_toArray, List.set_cons_zero, List.set_cons_succ]
      refine held_skip 25 (some 134) (by rfl) (by kernel_rfl) (by kernel_rfl) (by kernel_rfl) (fun _ _ _ h => h) (by assumption) ?_
      try simp only [Act.put, List.setIfInBounds_toArray, List.set_cons_zero, List.set_cons_succ]
      refine held_skip 26 (some 135) (by rfl) (by kernel_rfl) (by kernel_rfl) (by kernel_rfl) (fun _ _ _ h => h) (by assumption) ?_
      try simp only [Act.put, List.setIfInBounds_toArray, List.set_cons_zero, List.set_cons_succ]
      refine held_skip 27 (some 136) (by rfl) (by kernel_rfl) (by kernel_rfl) (by kernel_rfl) (fun _ _ _ h => h) (by assumption) ?_
      try simp only [Act.put, List.setIfInBounds_toArray, List.set_cons_zero, List.set_cons_succ]
      refine held_skip 28 (some 137) (by rfl) (by kernel_rfl) (by kernel_rfl) (by kernel_rfl) (fun _ _ _ h => h) (by assumption) ?_
      try simp only [Act.put, List.setIfInBounds_toArray, List.set_cons_zero, List.set_cons_succ]
      refine held_skip 29 (some 138) (by rfl) (by kernel_rfl) (by kernel_rfl) (by kernel_rfl) (fun _ _ _ h => h) (by assumption) ?_
      try simp only [Act.put, List.setIfInBounds_toArray, List.set_cons_zero, List.set_cons_succ]
      refine held_skip 30 (some 139) (by rfl) (by kernel_rfl) (by kernel_rfl) (by kernel_rfl) (fun _ _ _ h => h) (by assumption) ?_
      try simp only [Act.put, List.setIfInBounds_toArray, List.set_cons_zero, List.set_cons_succ]
      refine held_skip 31 (some 140) (by rfl) (by kernel_rfl) (by kernel_rfl) (by kernel_rfl) (fun _ _ _ h => h) (by assumption) ?_
      try simp only [Act.put, List.setIfInBounds_toArray, List.set_cons_zero, List.set_cons_succ]
      refine held_skip 32 (some 141) (by rfl) (by kernel_rfl) (by kernel_rfl) (by kernel_rfl) (fun _ _ _ h => h) (by assumption) ?_
      try simp only [Act.put, List.setIfInBounds_toArray, List.set_cons_zero, List.set_cons_succ]
      refine held_skip 33 (some 142) (by rfl) (by kernel_rfl) (by kernel_rfl) (by kernel_rfl) (fun _ _ _ h => h) (by assumption) ?_
      try simp only [Act.put, List.setIfInBounds_toArray, List.set_cons_zero, List.set_cons_succ]
      refine held_skip 34 (some 143) (by rfl) (by kernel_rfl) (by kernel_rfl) (by kernel_rfl) (fun _ _ _ h => h) (by assumption) ?_
      try simp only [Act.put, List.setIfInBounds_toArray, List.set_cons_zero, List.set_cons_succ]
      refine held_skip 35 (some 144) (by rfl) (by kernel_rfl) (by kernel_rfl) (by kernel_rfl) (fun _ _ _ h => h) (by assumption) ?_
      try simp only [Act.put, List.setIfInBounds_toArray, List.set_cons_zero, List.set_cons_succ]
      refine held_run 36 (some 145) (.pick (.tmp 116) (.tmp 144) (.const (Value.bool false))) ?v13_1_38 (by rfl) (by kernel_rfl) (by kernel_rfl) (by kernel_rfl) (fun _ _ _ h => h) (fun o ho w hS => ?y13_1_38) (by assumption) ?r13_1_38
      case y13_1_38 => (try dsimp only at hS); unfold execOp; simp only [ho]; go_simp; try with_reducible rfl
      try simp only [Act.put, List.setIfInBounds_toArray, List.set_cons_zero, List.set_cons_succ]
      refine held_run 37 (some 146) (.move (.tmp 145)) ?v13_1_39 (by rfl) (by kernel_rfl) (by kernel_rfl) (by kernel_rfl) (fun _ _ _ h => h) (fun o ho w hS => ?y13_1_39) (by assumption) ?r13_1_39
      case y13_1_39 => (try dsimp only at hS); unfold execOp; simp only [ho]; go_simp; try with_reducible rfl
      try simp only [Act.put, List.setIfInBounds_toArray, List.set_cons_zero, List.set_cons_succ]
      refine held_run 38 (some 147) (.move (.tmp 19)) ?v13_1_40 (by rfl) (by kernel_rfl) (by kernel_rfl) (by kernel_rfl) (fun _ _ _ h => h) (fun o ho w hS => ?y13_1_40) (by assumption) ?r13_1_40
      case y13_1_40 => (try dsimp only at hS); unfold execOp; simp only [ho]; go_simp; try with_reducible rfl
      try simp only [Act.put, List.setIfInBounds_toArray, List.set_cons_zero, List.set_cons_succ]
      refine held_run 39 (some 148) (.move (.tmp 21)) ?v13_1_41 (by rfl) (by kernel_rfl) (by kernel_rfl) (by kernel_rfl) (fun _ _ _ h => h) (fun o ho w hS => ?y13_1_41) (by assumption) ?r13_1_41
      case y13_1_41 => (try dsimp only at hS); unfold execOp; simp only [ho]; go_simp; try with_reducible rfl
      try simp only [Act.put, List.setIfInBounds_toArray, List.set_cons_zero, List.set_cons_succ]
      refine held_run 40 (some 149) (.indexAddr 22 (.tmp 147) (.tmp 148)) ?v13_1_42 (by rfl) (by kernel_rfl) (by kernel_rfl) (by kernel_rfl) (fun _ _ _ h => h) (fun o ho w hS => ?y13_1_42) (by assumption) ?r13_1_42
      case y13_1_42 => (try dsimp only at hS); unfold execOp; simp only [ho]; go_simp; try with_reducible rfl
      try simp only [Act.put, List.setIfInBounds_toArray, List.set_cons_zero, List.set_cons_succ]
      refine held_run 41 (some 150) (.fieldAddr 51 (.tmp 149) 0) ?v13_1_43 (by rfl) (by kernel_rfl) (by kernel_rfl) (by kernel_rfl) (fun _ _ _ h => h) (fun o ho w hS => ?y13_1_43) (by assumption) ?r13_1_43
      case y13_1_43 => (try dsimp only at hS); unfold execOp; simp only [ho]; go_simp; try with_reducible rfl
      try simp only [Act.put, List.setIfInBounds_toArray, List.set_cons_zero, List.set_cons_succ]
      refine held_run 42 (some 151) (.load 3 (.tmp 150)) ?v13_1_44 (by rfl) (by kernel_rfl) (by kernel_rfl) (by kernel_rfl) (fun _ _ _ h => h) (fun o ho w hS => ?y13_1_44) (by assumption) ?r13_1_44
      case y13_1_44 => (try dsimp only at hS); unfold execOp; simp only [ho]; go_simp; try with_reducible rfl
      try simp only [Act.put, List.setIfInBounds_toArray, List.set_cons_zero, List.set_cons_succ]
      refine held_run 43 (some 152) (.move (.tmp 1)) ?v13_1_45 (by rfl) (by kernel_rfl) (by kernel_rfl) (by kernel_rfl) (fun _ _ _ h => h) (fun o ho w hS => ?y13_1_45) (by assumption) ?r13_1_45
      case y13_1_45 => (try dsimp only at hS); unfold execOp; simp only [ho]; go_simp; try with_reducible rfl
      try simp only [Act.put, List.setIfInBounds_toArray, List.set_cons_zero, List.set_cons_succ]
      refine held_run 44 (some 153) (.move (.tmp 21)) ?v13_1_46 (by rfl) (by kernel_rfl) (by kernel_rfl) (by kernel_rfl) (fun _ _ _ h => h) (fun o ho w hS => ?y13_1_46) (by assumption) ?r13_1_46
      case y13_1_46 => (try dsimp only at hS); unfold execOp; simp only [ho]; go_simp; try with_reducible rfl
      try simp only [Act.put, List.setIfInBounds_toArray, List.set_cons_zero, List.set_cons_succ]
      refine held_run 45 (some 154) (.indexAddr 22 (.tmp 152) (.tmp 153)) ?v13_1_47 (by rfl) (by kernel_rfl) (by kernel_rfl) (by kernel_rfl) (fun _ _ _ h => h) (fun o ho w hS => ?y13_1_47) (by assumption) ?r13_1_47
      case y13_1_47 => (try dsimp only at hS); unfold execOp; simp only [ho]; go_simp; try with_reducible rfl
      try simp only [Act.put, List.setIfInBounds_toArray, List.set_cons_zero, List.set_cons_succ]
      refine held_run 46 (some 155) (.fieldAddr 51 (.tmp 154) 0) ?v13_1_48 (by rfl) (by kernel_rfl) (by kernel_rfl) (by kernel_rfl) (fun _ _ _ h => h) (fun o ho w hS => ?y13_1_48) (by assumption) ?r13_1_48
      case y13_1_48 => (try dsimp only at hS); unfold execOp; simp only [ho]; go_simp; try with_reducible rfl
      try simp only [Act.put, List.setIfInBounds_toArray, List.set_cons_zero, List.set_cons_succ]
      refine held_run 47 (some 156) (.load 3 (.tmp 155)) ?v13_1_49 (by rfl) (by kernel_rfl) (by kernel_rfl) (by kernel_rfl) (fun _ _ _ h => h) (fun o ho w hS => ?y13_1_49) (by assumption) ?r13_1_49
      case y13_1_49 => (try dsimp only at hS); unfold execOp; simp only [ho]; go_simp; try with_reducible rfl
      try simp only [Act.put, List.setIfInBounds_toArray, List.set_cons_zero, List.set_cons_succ]
      refine held_run 48 (some 157) (.binOp .neq 3 (.tmp 151) (.tmp 156) 3) ?v13_1_50 (by rfl) (by kernel_rfl) (by kernel_rfl) (by kernel_rfl) (fun _ _ _ h => h) (fun o ho w hS => ?y13_1_50) (by assumption) ?r13_1_50
      case y13_1_50 => (try dsimp only at hS); unfold execOp; simp only [ho]; go_simp; try with_reducible rfl
      try simp only [Act.put, List.setIfInBounds_toArray, List.set_cons_zero, List.set_cons_succ]
      refine held_run 49 (some 158) (.pick (.tmp 146) (.const (Value.bool true)) (.tmp 157)) ?v13_1_51 (by rfl) (by kernel_rfl) (by kernel_rfl) (by kernel_rfl) (fun _ _ _ h => h) (fun o ho w hS => ?y13_1_51) (by assumption) ?r13_1_51
      case y13_1_51 => (try dsimp only at hS); unfold execOp; simp only [ho]; go_simp; try with_reducible rfl
      try simp only [Act.put, List.setIfInBounds_toArray, List.set_cons_zero, List.set_cons_succ]
      refine held_run 50 (some 159) (.move (.tmp 158)) ?v13_1_52 (by rfl) (by kernel_rfl) (by kernel_rfl) (by kernel_rfl) (fun _ _ _ h => h) (fun o ho w hS => ?y13_1_52) (by assumption) ?r13_1_52
      case y13_1_52 => (try dsimp only at hS); unfold execOp; simp only [ho]; go_simp; try with_reducible rfl
      try simp only [Act.put, List.setIfInBounds_toArray, List.set_cons_zero, List.set_cons_succ]
      refine held_run 51 (some 160) (.move (.tmp 19)) ?v13_1_53 (by rfl) (by kernel_rfl) (by kernel_rfl) (by kernel_rfl) (fun _ _ _ h => h) (fun o ho w hS => ?y13_1_53) (by assumption) ?r13_1_53
      case y13_1_53 => (try dsimp only at hS); unfold execOp; simp only [ho]; go_simp; try with_reducible rfl
      try simp only [Act.put, List.setIfInBounds_toArray, List.set_cons_zero, List.set_cons_succ]
      refine held_run 52 (some 161) (.move (.tmp 21)) ?v13_1_54 (by rfl) (by kernel_rfl) (by kernel_rfl) (by kernel_rfl) (fun _ _ _ h => h) (fun o ho w hS => ?y13_1_54) (by assumption) ?r13_1_54
      case y13_1_54 => (try dsimp only at hS); unfold execOp; simp only [ho]; go_simp; try with_reducible rfl
      try simp only [Act.put, List.setIfInBounds_toArray, List.set_cons_zero, List.set_cons_succ]
      refine held_run 53 (some 162) (.indexAddr 22 (.tmp 160) (.tmp 161)) ?v13_1_55 (by rfl) (by kernel_rfl) (by kernel_rfl) (by kernel_rfl) (fun _ _ _ h => h) (fun o ho w hS => ?y13_1_55) (by assumption) ?r13_1_55
      case y13_1_55 => (try dsimp only at hS); unfold execOp; simp only [ho]; go_simp; try with_reducible rfl
      try simp only [Act.put, List.setIfInBounds_toArray, List.set_cons_zero, List.set_cons_succ]
      refine held_run 54 (some 163) (.fieldAddr 51 (.tmp 162) 7) ?v13_1_56 (by rfl) (by kernel_rfl) (by kernel_rfl) (by kernel_rfl) (fun _ _ _ h => h) (fun o ho w hS => ?y13_1_56) (by assumption) ?r13_1_56
      case y13_1_56 => (try dsimp only at hS); unfold execOp; simp only [ho]; go_simp; try with_reducible rfl
      try simp only [Act.put, List.setIfInBounds_toArray, List.set_cons_zero, List.set_cons_succ]
      refine held_run 55 (some 164) (.load 4 (.tmp 163)) ?v13_1_57 (by rfl) (by kernel_rfl) (by kernel_rfl) (by kernel_rfl) (fun _ _ _ h => h) (fun o ho w hS => ?y13_1_57) (by assumption) ?r13_1_57
      case y13_1_57 => (try dsimp only at hS); unfold execOp; simp only [ho]; go_simp; try with_reducible rfl
      try simp only [Act.put, List.setIfInBounds_toArray, List.set_cons_zero, List.set_cons_succ]
      refine held_run 56 (some 165) (.move (.tmp 1)) ?v13_1_58 (by rfl) (by kernel_rfl) (by kernel_rfl) (by kernel_rfl) (fun _ _ _ h => h) (fun o ho w hS => ?y13_1_58) (by assumption) ?r13_1_58
      case y13_1_58 => (try dsimp only at hS); unfold execOp; simp only [ho]; go_simp; try with_reducible rfl
      try simp only [Act.put, List.setIfInBounds_toArray, List.set_cons_zero, List.set_cons_succ]
      refine held_run 57 (some 166) (.move (.tmp 21)) ?v13_1_59 (by rfl) (by kernel_rfl) (by kernel_rfl) (by kernel_rfl) (fun _ _ _ h => h) (fun o ho w hS => ?y13_1_59) (by assumption) ?r13_1_59
      case y13_1_59 => (try dsimp only at hS); unfold execOp; simp only [ho]; go_simp; try with_reducible rfl
      try simp only [Act.put, List.setIfInBounds_toArray, List.set_cons_zero, List.set_cons_succ]
      refine held_run 58 (some 167) (.indexAddr 22 (.tmp 165) (.tmp 166)) ?v13_1_60 (by rfl) (by kernel_rfl) (by kernel_rfl) (by kernel_rfl) (fun _ _ _ h => h) (fun o ho w hS => ?y13_1_60) (by assumption) ?r13_1_60
      case y13_1_60 => (try dsimp only at hS); unfold execOp; simp only [ho]; go_simp; try with_reducible rfl
      try simp only [Act.put, List.setIfInBounds_toArray, List.set_cons_zero, List.set_cons_succ]
      refine held_run 59 (some 168) (.fieldAddr 51 (.tmp 167) 7) ?v13_1_61 (by rfl) (by kernel_rfl) (by kernel_rfl) (by kernel_rfl) (fun _ _ _ h => h) (fun o ho w hS => ?y13_1_61) (by assumption) ?r13_1_61
      case y13_1_61 => (try dsimp only at hS); unfold execOp; simp only [ho]; go_simp; try with_reducible rfl
      try simp only [Act.put, List.setIfInBounds_toArray, List.set_cons_zero, List.set_cons_succ]
      refine held_run 60 (some 169) (.load 4 (.tmp 168)) ?v13_1_62 (by rfl) (by kernel_rfl) (by kernel_rfl) (by kernel_rfl) (fun _ _ _ h => h) (fun o ho w hS => ?y13_1_62) (by assumption) ?r13_1_62
      case y13_1_62 => (try dsimp only at hS); unfold execOp; simp only [ho]; go_simp; try with_reducible rfl
      try simp only [Act.put, List.setIfInBounds_toArray, List.set_cons_zero, List.set_cons_succ]
      refine held_run 61 (some 170) (.binOp .neq 4 (.tmp 164) (.tmp 169) 4) ?v13_1_63 (by rfl) (by kernel_rfl) (by kernel_rfl) (by kernel_rfl) (fun _ _ _ h => h) (fun o ho w hS => ?y13_1_63) (by assumption) ?r13_1_63
      case y13_1_63 => (try dsimp only at hS); unfold execOp; simp only [ho]; go_simp; try with_reducible rfl
      try simp only [Act.put, List.setIfInBounds_toArray, List.set_cons_zero, List.set_cons_succ]
      refine held_run 62 (some 171) (.pick (.tmp 159) (.const (Value.bool true)) (.tmp 170)) ?v13_1_64 (by rfl) (by kernel_rfl) (by kernel_rfl) (by kernel_rfl) (fun _ _ _ h => h) (fun o ho w hS => ?y13_1_64) (by assumption) ?r13_1_64
      case y13_1_64 => (try dsimp only at hS); unfold execOp; simp only [ho]; go_simp; try with_reducible rfl
      try simp only [Act.put, List.setIfInBounds_toArray, List.set_cons_zero, List.set_cons_succ]
      refine held_run 63 (some 172) (.move (.tmp 171)) ?v13_1_65 (by rfl) (by kernel_rfl) (by kernel_rfl) (by kernel_rfl) (fun _ _ _ h => h) (fun o ho w hS => ?y13_1_65) (by assumption) ?r13_1_65
      case y13_1_65 => (try dsimp only at hS); unfold execOp; simp only [ho]; go_simp; try with_reducible rfl
      try simp only [Act.put, List.setIfInBounds_toArray, List.set_cons_zero, List.set_cons_succ]
      refine held_run 64 (some 173) (.move (.tmp 19)) ?v13_1_66 (by rfl) (by kernel_rfl) (by kernel_rfl) (by kernel_rfl) (fun _ _ _ h => h) (fun o ho w hS => ?y13_1_66) (by assumption) ?r13_1_66
      case y13_1_66 => (try dsimp only at hS); unfold execOp; simp only [ho]; go_simp; try with_reducible rfl
      try simp only [Act.put, List.setIfInBounds_toArray, List.set_cons_zero, List.set_cons_succ]
      refine held_run 65 (some 174) (.move (.tmp 21)) ?v13_1_67 (by rfl) (by kernel_rfl) (by kernel_rfl) (by kernel_rfl) (fun _ _ _ h => h) (fun o ho w hS => ?y13_1_67) (by assumption) ?r13_1_67
      case y13_1_67 => (try dsimp only at hS); unfold execOp; simp only [ho]; go_simp; try with_reducible rfl
      try simp only [Act.put, List.setIfInBounds_toArray, List.set_cons_zero, List.set_cons_succ]
      refine held_run 66 (some 175) (.indexAddr 22 (.tmp 173) (.tmp 174)) ?v13_1_68 (by rfl) (by kernel_rfl) (by kernel_rfl) (by kernel_rfl) (fun _ _ _ h => h) (fun o ho w hS => ?y13_1_68) (by assumption) ?r13_1_68
      case y13_1_68 => (try dsimp only at hS); unfold execOp; simp only [ho]; go_simp; try with_reducible rfl
      try simp only [Act.put, List.setIfInBounds_toArray, List.set_cons_zero, List.set_cons_succ]
      refine held_run 67 (some 176) (.fieldAddr 51 (.tmp 175) 2) ?v13_1_69 (by rfl) (by kernel_rfl) (by kernel_rfl) (by kernel_rfl) (fun _ _ _ h => h) (fun o ho w hS => ?y13_1_69) (by assumption) ?r13_1_69
      case y13_1_69 => (try dsimp only at hS); unfold execOp; simp only [ho]; go_simp; try with_reducible rfl
      try simp only [Act.put, List.setIfInBounds_toArray, List.set_cons_zero, List.set_cons_succ]
      refine held_run 68 (some 177) (.load 3 (.tmp 176)) ?v13_1_70 (by rfl) (by kernel_rfl) (by kernel_rfl) (by kernel_rfl) (fun _ _ _ h => h) (fun o ho w hS => ?y13_1_70) (by assumption) ?r13_1_70
      case y13_1_70 => (try dsimp only at hS); unfold execOp; simp only [ho]; go_simp; try with_reducible rfl
      try simp only [Act.put, List.setIfInBounds_toArray, List.set_cons_zero, List.set_cons_succ]
      refine held_run 69 (some 178) (.move (.tmp 1)) ?v13_1_71 (by rfl) (by kernel_rfl) (by kernel_rfl) (by kernel_rfl) (fun _ _ _ h => h) (fun o ho w hS => ?y13_1_71) (by assumption) ?r13_1_71
      case y13_1_71 => (try dsimp only at hS); unfold execOp; simp only [ho]; go_simp; try with_reducible rfl
      try simp only [Act.put, List.setIfInBounds_toArray, List.set_cons_zero, List.set_cons_succ]
      refine held_run 70 (some 179) (.move (.tmp 21)) ?v13_1_72 (by rfl) (by kernel_rfl) (by kernel_rfl) (by kernel_rfl) (fun _ _ _ h => h) (fun o ho w hS => ?y13_1_72) (by assumption) ?r13_1_72
      case y13_1_72 => (try dsimp only at hS); unfold execOp; simp only [ho]; go_simp; try with_reducible rfl
      try simp only [Act.put, List.setIfInBounds_toArray, List.set_cons_zero, List.set_cons_succ]
      refine held_run 71 (some 180) (.indexAddr 22 (.tmp 178) (.tmp 179)) ?v13_1_73 (by rfl) (by kernel_rfl) (by kernel_rfl) (by kernel_rfl) (fun _ _ _ h => h) (fun o ho w hS => ?y13_1_73) (by assumption) ?r13_1_73
      case y13_1_73 => (try dsimp only at hS); unfold execOp; simp only [ho]; go_simp; try with_reducible rfl
      try simp only [Act.put, List.setIfInBounds_toArray, List.set_cons_zero, List.set_cons_succ]
      refine held_run 72 (some 181) (.fieldAddr 51 (.tmp 180) 2) ?v13_1_74 (by rfl) (by kernel_rfl) (by kernel_rfl) (by kernel_rfl) (fun _ _ _ h => h) (fun o ho w hS => ?y13_1_74) (by assumption) ?r13_1_74
      case y13_1_74 => (try dsimp only at hS); unfold execOp; simp only [ho]; go_simp; try with_reducible rfl
      try simp only [Act.put, List.setIfInBounds_toArray, List.set_cons_zero, List.set_cons_succ]
      refine held_run 73 (some 182) (.load 3 (.tmp 181)) ?v13_1_75 (by rfl) (by kernel_rfl) (by kernel_rfl) (by kernel_rfl) (fun _ _ _ h => h) (fun o ho w hS => ?y13_1_75) (by assumption) ?r13_1_75
      case y13_1_75 => (try dsimp only at hS); unfold execOp; simp only [ho]; go_simp; try with_reducible rfl
      try simp only [Act.put, List.setIfInBounds_toArray, List.set_cons_zero, List.set_cons_succ]
      refine held_run 74 (some 183) (.binOp .neq 3 (.tmp 177) (.tmp 182) 3) ?v13_1_76 (by rfl) (by kernel_rfl) (by kernel_rfl) (by kernel_rfl) (fun _ _ _ h => h) (fun o ho w hS => ?y13_1_76) (by assumption) ?r13_1_76
      case y13_1_76 => (try dsimp only at hS); unfold execOp; simp only [ho]; go_simp; try with_reducible rfl
      try simp only [Act.put, List.setIfInBounds_toArray, List.set_cons_zero, List.set_cons_succ]
      refine held_run 75 (some 184) (.pick (.tmp 172) (.const (Value.bool true)) (.tmp 183)) ?v13_1_77 (by rfl) (by kernel_rfl) (by kernel_rfl) (by kernel_rfl) (fun _ _ _ h => h) (fun o ho w hS => ?y13_1_77) (by assumption) ?r13_1_77
      case y13_1_77 => (try dsimp only at hS); unfold execOp; simp only [ho]; go_simp; try with_reducible rfl
      try simp only [Act.put, List.setIfInBounds_toArray, List.set_cons_zero, List.set_cons_succ]
      refine wpAnyH_done (by kernel_rfl) ?_ _
      clear f0 f2 f7 g0 g2 g7 L0
      go_wp2_with fail
      go_roundw
      case rel => exact ⟨k + 1, by omega, by go_num, HBo.out.drew⟩
      case measure => simp [intOf]; omega
    · have d1 : (cid != gi) = true := bne_iff_ne.2 hid
      obtain ⟨aa, rfl, LA⟩ := gr_at HAo.out HNa.out hlt
      rw [HEA.out hca hid] at LA
      have LA : (∀ j u, ([.int .i64 cid, .int .i64 nod, .int .i64 cfuel, .int .i64 st, .int .i64 tg, .int .i64 run, .int .i64 til, .bool cwin] : List Value)[j]? = some u → wo.cell? ((aa.add (k * 8)).add j) = some u) := LA
      clear hid HEA HEB
      go_wp2_with fail
      refine wp_region_held_drew (S := fun W => (((W.cell? (ad.add (k * 8)) = some (.int .i64 cid) ∧ W.cell? ⟨(ad.add (k * 8)).block, (ad.add (k * 8)).off + 2, none⟩ = some (.int .i64 cfuel) ∧ W.cell? ⟨(ad.add (k * 8)).block, (ad.add (k * 8)).off + 7, none⟩ = some (.bool cwin)) ∧ (W.cell? (ac.add (k * 8)) = some (.int .i64 cid) ∧ W.cell? ⟨(ac.add (k * 8)).block, (ac.add (k * 8)).off + 2, none⟩ = some (.int .i64 cfuel) ∧ W.cell? ⟨(ac.add (k * 8)).block, (ac.add (k * 8)).off + 7, none⟩ = some (.bool cwin))) ∧ (∀ j u, ([.int .i64 cid, .int .i64 nod, .int .i64 cfuel, .int .i64 st, .int .i64 tg, .int .i64 run, .int .i64 til, .bool cwin] : List Value)[j]? = some u → W.cell? ((ad.add (k * 8)).add j) = some u) ∧ (∀ j u, ([.int .i64 cid, .int .i64 nod, .int .i64 cfuel, .int .i64 st, .int .i64 tg, .int .i64 run, .int .i64 til, .bool cwin] : List Value)[j]? = some u → W.cell? ((aa.add (k * 8)).add j) = some u))) (by kernel_rfl) (⟨⟨⟨f0, f2, f7⟩, g0, g2, g7⟩, L0, LA⟩) (fun hHeld => ?_)
      refine held_run 0 (some 109) (.move (.tmp 1)) ?v13_78_79 (by rfl) (by kernel_rfl) (by kernel_rfl) (by kernel_rfl) (fun _ _ _ h => h) (fun o ho w hS => ?y13_78_79) (by assumption) ?r13_78_79
      case y13_78_79 => (try dsimp only at hS); unfold execOp; simp only [ho]; go_simp; try with_reducible rfl
      try simp only [Act.put, List.setIfInBounds_toArray, List.set_cons_zero, List.set_cons_succ]
      refine held_run 1 (some 110) (.move (.tmp 21)) ?v13_78_80 (by rfl) (by kernel_rfl) (by kernel_rfl) (by kernel_rfl) (fun _ _ _ h => h) (fun o ho w hS => ?y13_78_80) (by assumption) ?r13_78_80
      case y13_78_80 => (try dsimp only at hS); unfold execOp; simp only [ho]; go_simp; try with_reducible rfl
      try simp only [Act.put, List.setIfInBounds_toArray, List.set_cons_zero, List.set_cons_succ]
      refine held_run 2 (some 111) (.indexAddr 22 (.tmp 109) (.tmp 110)) ?v13_78_81 (by rfl) (by kernel_rfl) (by kernel_rfl) (by kernel_rfl) (fun _ _ _ h => h) (fun o ho w hS => ?y13_78_81) (by assumption) ?r13_78_81
      case y13_78_81 => (try dsimp only at hS); unfold execOp; simp only [ho]; go_simp; try with_reducible rfl
      try simp only [Act.put, List.setIfInBounds_toArray, List.set_cons_zero, List.set_cons_succ]
      refine held_run 3 (some 112) (.fieldAddr 51 (.tmp 111) 0) ?v13_78_82 (by rfl) (by kernel_rfl) (by kernel_rfl) (by kernel_rfl) (fun _ _ _ h => h) (fun o ho w hS => ?y13_78_82) (by assumption) ?r13_78_82
      case y13_78_82 => (try dsimp only at hS); unfold execOp; simp only [ho]; go_simp; try with_reducible rfl
      try simp only [Act.put, List.setIfInBounds_toArray, List.set_cons_zero, List.set_cons_succ]
      refine held_run 4 (some 113) (.load 3 (.tmp 112)) ?v13_78_83 (by rfl) (by kernel_rfl) (by kernel_rfl) (by kernel_rfl) (fun _ _ _ h => h) (fun o ho w hS => ?y13_78_83) (by assumption) ?r13_78_83
      case y13_78_83 => (try dsimp only at hS); unfold execOp; simp only [ho]; go_simp; try with_reducible rfl
      try simp only [Act.put, List.setIfInBounds_toArray, List.set_cons_zero, List.set_cons_succ]
      refine held_run 5 (some 114) (.move (.tmp 2)) ?v13_78_84 (by rfl) (by kernel_rfl) (by kernel_rfl) (by kernel_rfl) (fun _ _ _ h => h) (fun o ho w hS => ?y13_78_84) (by assumption) ?r13_78_84
      case y13_78_84 => (try dsimp only at hS); unfold execOp; simp only [ho]; go_simp; try with_reducible rfl
      try simp only [Act.put, List.setIfInBounds_toArray, List.set_cons_zero, List.set_cons_succ]
      refine held_run 6 (some 115) (.binOp .neq 3 (.tmp 113) (.tmp 114) 3) ?v13_78_85 (by rfl) (by kernel_rfl) (by kernel_rfl) (by kernel_rfl) (fun _ _ _ h => h) (fun o ho w hS => ?y13_78_85) (by assumption) ?r13_78_85
      case y13_78_85 => (try dsimp only at hS); unfold execOp; simp only [ho]; go_simp; try with_reducible rfl
      try simp only [Act.put, List.setIfInBounds_toArray, List.set_cons_zero, List.set_cons_succ]
      refine held_run 7 (some 116) (.move (.tmp 115)) ?v13_78_86 (by rfl) (by kernel_rfl) (by kernel_rfl) (by kernel_rfl) (fun _ _ _ h => h) (fun o ho w hS => ?y13_78_86) (by assumption) ?r13_78_86
      case y13_78_86 => (try dsimp only at hS); unfold execOp; simp only [ho]; go_simp; try with_reducible rfl
      try simp only [Act.put, List.setIfInBounds_toArray, List.set_cons_zero, List.set_cons_succ]
      refine held_run 8 (some 117) (.move (.tmp 16)) ?v13_78_87 (by rfl) (by kernel_rfl) (by kernel_rfl) (by kernel_rfl) (fun _ _ _ h => h) (fun o ho w hS => ?y13_78_87) (by assumption) ?r13_78_87
      case y13_78_87 => (try dsimp only at hS); unfold execOp; simp only [ho]; go_simp; try with_reducible rfl
      try simp only [Act.put, List.setIfInBounds_toArray, List.set_cons_zero, List.set_cons_succ]
      refine held_run 9 (some 118) (.binOp .eql 24 (.tmp 117) (.const (.int .i64 0)) 24) ?v13_78_88 (by rfl) (by kernel_rfl) (by kernel_rfl) (by kernel_rfl) (fun _ _ _ h => h) (fun o ho w hS => ?y13_78_88) (by assumption) ?r13_78_88
      case y13_78_88 => (try dsimp only at hS); unfold execOp; simp only [ho]; go_simp; try with_reducible rfl
      try simp only [Act.put, List.setIfInBounds_toArray, List.set_cons_zero, List.set_cons_succ]
      refine held_run 10 (some 119) (.move (.tmp 118)) ?v13_78_89 (by rfl) (by kernel_rfl) (by kernel_rfl) (by kernel_rfl) (fun _ _ _ h => h) (fun o ho w hS => ?y13_78_89) (by assumption) ?r13_78_89
      case y13_78_89 => (try dsimp only at hS); unfold execOp; simp only [ho]; go_simp; try with_reducible rfl
      try simp only [Act.put, List.setIfInBounds_toArray, List.set_cons_zero, List.set_cons_succ]
      refine held_run 11 (some 120) (.move (.tmp 15)) ?v13_78_90 (by rfl) (by kernel_rfl) (by kernel_rfl) (by kernel_rfl) (fun _ _ _ h => h) (fun o ho w hS => ?y13_78_90) (by assumption) ?r13_78_90
      case y13_78_90 => (try dsimp only at hS); unfold execOp; simp only [ho]; go_simp; try with_reducible rfl
      try simp only [Act.put, List.setIfInBounds_toArray, List.set_cons_zero, List.set_cons_succ]
      refine held_run 12 (some 121) (.move (.tmp 21)) ?v13_78_91 (by rfl) (by kernel_rfl) (by kernel_rfl) (by kernel_rfl) (fun _ _ _ h => h) (fun o ho w hS => ?y13_78_91) (by assumption) ?r13_78_91
      case y13_78_91 => (try dsimp only at hS); unfold execOp; simp only [ho]; go_simp; try with_reducible rfl
      try simp only [Act.put, List.setIfInBounds_toArray, List.set_cons_zero, List.set_cons_succ]
      refine held_run 13 (some 122) (.indexAddr 22 (.tmp 120) (.tmp 121)) ?v13_78_92 (by rfl) (by kernel_rfl) (by kernel_rfl) (by kernel_rfl) (fun _ _ _ h => h) (fun o ho w hS => ?y13_78_92) (by assumption) ?r13_78_92
      case y13_78_92 => (try dsimp only at hS); unfold execOp; simp only [ho]; go_simp; try with_reducible rfl
      try simp only [Act.put, List.setIfInBounds_toArray, List.set_cons_zero, List.set_cons_succ]
      refine held_load_at 14 (some 123) 51 (.tmp 122) (by rfl) (by kernel_rfl) (by kernel_rfl) (by kernel_rfl) ((aa.add (k * 8))) ([.int .i64 cid, .int .i64 nod, .int .i64 cfuel, .int .i64 st, .int .i64 tg, .int .i64 run, .int .i64 til, .bool cwin] : List Value) (fun _ _ _ h => h) (by rfl) (fun _ h => h.2.2) _ Try.underlying51 rfl (by kernel_rfl) (by assumption) ?_
      try simp only [Act.put, List.setIfInBounds_toArray, List.set_cons_zero, List.set_cons_succ]
      refine held_run 15 (some 124) (.move (.tmp 1)) ?v13_78_94 (by rfl) (by kernel_rfl) (by kernel_rfl) (by kernel_rfl) (fun _ _ _ h => h) (fun o ho w hS => ?y13_78_94) (by assumption) ?r13_78_94
      case y13_78_94 => (try dsimp only at hS); unfold execOp; simp only [ho]; go_simp; try with_reducible rfl
      try simp only [Act.put, List.setIfInBounds_toArray, List.set_cons_zero, List.set_cons_succ]
      refine held_run 16 (some 125) (.move (.tmp 21)) ?v13_78_95 (by rfl) (by kernel_rfl) (by kernel_rfl) (by kernel_rfl) (fun _ _ _ h => h) (fun o ho w hS => ?y13_78_95) (by assumption) ?r13_78_95
      case y13_78_95 => (try dsimp only at hS); unfold execOp; simp only [ho]; go_simp; try with_reducible rfl
      try simp only [Act.put, List.setIfInBounds_toArray, List.set_cons_zero, List.set_cons_succ]
      refine held_run 17 (some 126) (.indexAddr 22 (.tmp 124) (.tmp 125)) ?v13_78_96 (by rfl) (by kernel_rfl) (by kernel_rfl) (by kernel_rfl) (fun _ _ _ h => h) (fun o ho w hS => ?y13_78_96) (by assumption) ?r13_78_96
      case y13_78_96 => (try dsimp only at hS); unfold execOp; simp only [ho]; go_simp; try with_reducible rfl
      try simp only [Act.put, List.setIfInBounds_toArray, List.set_cons_zero, List.set_cons_succ]
      refine held_load_at 18 (some 127) 51 (.tmp 126) (by rfl) (by kernel_rfl) (by kernel_rfl) (by kernel_rfl) ((ad.add (k * 8))) ([.int .i64 cid, .int .i64 nod, .int .i64 cfuel, .int .i64 st, .int .i64 tg, .int .i64 run, .int .i64 til, .bool cwin] : List Value) (fun _ _ _ h => h) (by rfl) (fun _ h => h.2.1) _ Try.underlying51 rfl (by kernel_rfl) (by assumption) ?_
      try simp only [Act.put, List.setIfInBounds_toArray, List.set_cons_zero, List.set_cons_succ]
      refine held_run 19 (some 128) (.binOp .neq 51 (.tmp 123) (.tmp 127) 51) ?v13_78_98 (by rfl) (by kernel_rfl) (by kernel_rfl) (by kernel_rfl) (fun _ _ _ h => h) (fun o ho w hS => ?y13_78_98) (by assumption) ?r13_78_98
      case y13_78_98 => (try dsimp only at hS); unfold execOp; simp only [ho]; go_simp; try with_reducible rfl
      try simp only [Act.put, List.setIfInBounds_toArray, List.set_cons_zero, List.set_cons_succ]
      refine held_run 20 (some 129) (.pick (.tmp 119) (.tmp 128) (.const (Value.bool false))) ?v13_78_99 (by rfl) (by kernel_rfl) (by kernel_rfl) (by kernel_rfl) (fun _ _ _ h => h) (fun o ho w hS => ?y13_78_99) (by assumption) ?r13_78_99
      case y13_78_99 => (try dsimp only at hS); unfold execOp; simp only [ho]; go_simp; try with_reducible rfl
      try simp only [Act.put, List.setIfInBounds_toArray, List.set_cons_zero, List.set_cons_succ]
      refine held_run 21 (some 130) (.move (.tmp 129)) ?v13_78_100 (by rfl) (by kernel_rfl) (by kernel_rfl) (by kernel_rfl) (fun _ _ _ h => h) (fun o ho w hS => ?y13_78_100) (by assumption) ?r13_78_100
      case y13_78_100 => (try dsimp only at hS); unfold execOp; simp only [ho]; go_simp; try with_reducible rfl
      try simp only [Act.put, List.setIfInBounds_toArray, List.set_cons_zero, List.set_cons_succ]
      refine held_run 22 (some 131) (.move (.tmp 18)) ?v13_78_101 (by rfl) (by kernel_rfl) (by kernel_rfl) (by kernel_rfl) (fun _ _ _ h => h) (fun o ho w hS => ?y13_78_101) (by assumption) ?r13_78_101
      case y13_78_101 => (try dsimp only at hS); unfold execOp; simp only [ho]; go_simp; try with_reducible rfl
      try simp only [Act.put, List.setIfInBounds_toArray, List.set_cons_zero, List.set_cons_succ]
      refine held_run 23 (some 132) (.binOp .eql 24 (.tmp 131) (.const (.int .i64 0)) 24) ?v13_78_102 (by rfl) (by kernel_rfl) (by kernel_rfl) (by kernel_rfl) (fun _ _ _ h => h) (fun o ho w hS => ?y13_78_102) (by assumption) ?r13_78_102
      case y13_78_102 => (try dsimp only at hS); unfold execOp; simp only [ho]; go_simp; try with_reducible rfl
      try simp only [Act.put, List.setIfInBounds_toArray, List.set_cons_zero, List.set_cons_succ]
      refine held_run 24 (some 133) (.move (.tmp 132)) ?v13_78_103 (by rfl) (by kernel_rfl) (by kernel_rfl) (by kernel_rfl) (fun _ _ _ h => h) (fun o ho w hS => ?y13_78_103) (by assumption) ?r13_78_103
      case y13_78_103 => (try dsimp only at hS); unfold execOp; simp only [ho]; go_simp; try with_reducible rfl
      try simp only [Act.put, List.setIfInBounds_toArray, List.set_cons_zero, List.set_cons_succ]
      refine held_skip 25 (some 134) (by rfl) (by kernel_rfl) (by kernel_rfl) (by kernel_rfl) (fun _ _ _ h => h) (by assumption) ?_
      try simp only [Act.put, List.setIfInBounds_toArray, List.set_cons_zero, List.set_cons_succ]
      refine held_skip 26 (some 135) (by rfl) (by kernel_rfl) (by kernel_rfl) (by kernel_rfl) (fun _ _ _ h => h) (by assumption) ?_
      try simp only [Act.put, List.setIfInBounds_toArray, List.set_cons_zero, List.set_cons_succ]
      refine held_skip 27 (some 136) (by rfl) (by kernel_rfl) (by kernel_rfl) (by kernel_rfl) (fun _ _ _ h => h) (by assumption) ?_
      try simp only [Act.put, List.setIfInBounds_toArray, List.set_cons_zero, List.set_cons_succ]
      refine held_skip 28 (some 137) (by rfl) (by kernel_rfl) (by kernel_rfl) (by kernel_rfl) (fun _ _ _ h => h) (by assumption) ?_
      try simp only [Act.put, List.setIfInBounds_toArray, List.set_cons_zero, List.set_cons_succ]
      refine held_skip 29 (some 138) (by rfl) (by kernel_rfl) (by kernel_rfl) (by kernel_rfl) (fun _ _ _ h => h) (by assumption) ?_
      try simp only [Act.put, List.setIfInBounds_toArray, List.set_cons_zero, List.set_cons_succ]
      refine held_skip 30 (some 139) (by rfl) (by kernel_rfl) (by kernel_rfl) (by kernel_rfl) (fun _ _ _ h => h) (by assumption) ?_
      try simp only [Act.put, List.setIfInBounds_toArray, List.set_cons_zero, List.set_cons_succ]
      refine held_skip 31 (some 140) (by rfl) (by kernel_rfl) (by kernel_rfl) (by kernel_rfl) (fun _ _ _ h => h) (by assumption) ?_
      try simp only [Act.put, List.setIfInBounds_toArray, List.set_cons_zero, List.set_cons_succ]
      refine held_skip 32 (some 141) (by rfl) (by kernel_rfl) (by kernel_rfl) (by kernel_rfl) (fun _ _ _ h => h) (by assumption) ?_
      try simp only [Act.put, List.setIfInBounds_toArray, List.set_cons_zero, List.set_cons_succ]
      refine held_skip 33 (some 142) (by rfl) (by kernel_rfl) (by kernel_rfl) (by kernel_rfl) (fun _ _ _ h => h) (by assumption) ?_
      try simp only [Act.put, List.setIfInBounds_toArray, List.set_cons_zero, List.set_cons_succ]
      refine held_run 34 (some 143) (.pick (.tmp 133) (.tmp 142) (.const (Value.bool false))) ?v13_78_113 (by rfl) (by kernel_rfl) (by kernel_rfl) (by kernel_rfl) (fun _ _ _ h => h) (fun o ho w hS => ?y13_78_113) (by assumption) ?r13_78_113
      case y13_78_113 => (try dsimp only at hS); unfold execOp; simp only [ho]; go_simp; try with_reducible rfl
      try simp only [Act.put, List.setIfInBounds_toArray, List.set_cons_zero, List.set_cons_succ]
      refine held_run 35 (some 144) (.pick (.tmp 130) (.const (Value.bool true)) (.tmp 143)) ?v13_78_114 (by rfl) (by kernel_rfl) (by kernel_rfl) (by kernel_rfl) (fun _ _ _ h => h) (fun o ho w hS => ?y13_78_114) (by assumption) ?r13_78_114
      case y13_78_114 => (try dsimp only at hS); unfold execOp; simp only [ho]; go_simp; try with_reducible rfl
      try simp only [Act.put, List.setIfInBounds_toArray, List.set_cons_zero, List.set_cons_succ]
      refine held_run 36 (some 145) (.pick (.tmp 116) (.tmp 144) (.const (Value.bool false))) ?v13_78_115 (by rfl) (by kernel_rfl) (by kernel_rfl) (by kernel_rfl) (fun _ _ _ h => h) (fun o ho w hS => ?y13_78_115) (by assumption) ?r13_78_115
      case y13_78_115 => (try dsimp only at hS); unfold execOp; simp only [ho]; go_simp; try with_reducible rfl
      try simp only [Act.put, List.setIfInBounds_toArray, List.set_cons_zero, List.set_cons_succ]
      refine held_run 37 (some 146) (.move (.tmp 145)) ?v13_78_116 (by rfl) (by kernel_rfl) (by kernel_rfl) (by kernel_rfl) (fun _ _ _ h => h) (fun o ho w hS => ?y13_78_116) (by assumption) ?r13_78_116
      case y13_78_116 => (try dsimp only at hS); unfold execOp; simp only [ho]; go_simp; try with_reducible rfl
      try simp only [Act.put, List.setIfInBounds_toArray, List.set_cons_zero, List.set_cons_succ]
      refine held_run 38 (some 147) (.move (.tmp 19)) ?v13_78_117 (by rfl) (by kernel_rfl) (by kernel_rfl) (by kernel_rfl) (fun _ _ _ h => h) (fun o ho w hS => ?y13_78_117) (by assumption) ?r13_78_117
      case y13_78_117 => (try dsimp only at hS); unfold execOp; simp only [ho]; go_simp; try with_reducible rfl
      try simp only [Act.put, List.setIfInBounds_toArray, List.set_cons_zero, List.set_cons_succ]
      refine held_run 39 (some 148) (.move (.tmp 21)) ?v13_78_118 (by rfl) (by kernel_rfl) (by kernel_rfl) (by kernel_rfl) (fun _ _ _ h => h) (fun o ho w hS => ?y13_78_118) (by assumption) ?r13_78_118
      case y13_78_118 => (try dsimp only at hS); unfold execOp; simp only [ho]; go_simp; try with_reducible rfl
      try simp only [Act.put, List.setIfInBounds_toArray, List.set_cons_zero, List.set_cons_succ]
      refine held_run 40 (some 149) (.indexAddr 22 (.tmp 147) (.tmp 148)) ?v13_78_119 (by rfl) (by kernel_rfl) (by kernel_rfl) (by kernel_rfl) (fun _ _ _ h => h) (fun o ho w hS => ?y13_78_119) (by assumption) ?r13_78_119
      case y13_78_119 => (try dsimp only at hS); unfold execOp; simp only [ho]; go_simp; try with_reducible rfl
      try simp only [Act.put, List.setIfInBounds_toArray, List.set_cons_zero, List.set_cons_succ]
      refine held_run 41 (some 150) (.fieldAddr 51 (.tmp 149) 0) ?v13_78_120 (by rfl) (by kernel_rfl) (by kernel_rfl) (by kernel_rfl) (fun _ _ _ h => h) (fun o ho w hS => ?y13_78_120) (by assumption) ?r13_78_120
      case y13_78_120 => (try dsimp only at hS); unfold execOp; simp only [ho]; go_simp; try with_reducible rfl
      try simp only [Act.put, List.setIfInBounds_toArray, List.set_cons_zero, List.set_cons_succ]
      refine held_run 42 (some 151) (.load 3 (.tmp 150)) ?v13_78_121 (by rfl) (by kernel_rfl) (by kernel_rfl) (by kernel_rfl) (fun _ _ _ h => h) (fun o ho w hS => ?y13_78_121) (by assumption) ?r13_78_121
      case y13_78_121 => (try dsimp only at hS); unfold execOp; simp only [ho]; go_simp; try with_reducible rfl
      try simp only [Act.put, List.setIfInBounds_toArray, List.set_cons_zero, List.set_cons_succ]
      refine held_run 43 (some 152) (.move (.tmp 1)) ?v13_78_122 (by rfl) (by kernel_rfl) (by kernel_rfl) (by kernel_rfl) (fun _ _ _ h => h) (fun o ho w hS => ?y13_78_122) (by assumption) ?r13_78_122
      case y13_78_122 => (try dsimp only at hS); unfold execOp; simp only [ho]; go_simp; try with_reducible rfl
      try simp only [Act.put, List.setIfInBounds_toArray, List.set_cons_zero, List.set_cons_succ]
      refine held_run 44 (some 153) (.move (.tmp 21)) ?v13_78_123 (by rfl) (by kernel_rfl) (by kernel_rfl) (by kernel_rfl) (fun _ _ _ h => h) (fun o ho w hS => ?y13_78_123) (by assumption) ?r13_78_123
      case y13_78_123 => (try dsimp only at hS); unfold execOp; simp only [ho]; go_simp; try with_reducible rfl
      try simp only [Act.put, List.setIfInBounds_toArray, List.set_cons_zero, List.set_cons_succ]
      refine held_run 45 (some 154) (.indexAddr 22 (.tmp 152) (.tmp 153)) ?v13_78_124 (by rfl) (by kernel_rfl) (by kernel_rfl) (by kernel_rfl) (fun _ _ _ h => h) (fun o ho w hS => ?y13_78_124) (by assumption) ?r13_78_124
      case y13_78_124 => (try dsimp only at hS); unfold execOp; simp only [ho]; go_simp; try with_reducible rfl
      try simp only [Act.put, List.setIfInBounds_toArray, List.set_cons_zero, List.set_cons_succ]
      refine held_run 46 (some 155) (.fieldAddr 51 (.tmp 154) 0) ?v13_78_125 (by rfl) (by kernel_rfl) (by kernel_rfl) (by kernel_rfl) (fun _ _ _ h => h) (fun o ho w hS => ?y13_78_125) (by assumption) ?r13_78_125
      case y13_78_125 => (try dsimp only at hS); unfold execOp; simp only [ho]; go_simp; try with_reducible rfl
      try simp only [Act.put, List.setIfInBounds_toArray, List.set_cons_zero, List.set_cons_succ]
      refine held_run 47 (some 156) (.load 3 (.tmp 155)) ?v13_78_126 (by rfl) (by kernel_rfl) (by kernel_rfl) (by kernel_rfl) (fun _ _ _ h => h) (fun o ho w hS => ?y13_78_126) (by assumption) ?r13_78_126
      case y13_78_126 => (try dsimp only at hS); unfold execOp; simp only [ho]; go_simp; try with_reducible rfl
      try simp only [Act.put, List.setIfInBounds_toArray, List.set_cons_zero, List.set_cons_succ]
      refine held_run 48 (some 157) (.binOp .neq 3 (.tmp 151) (.tmp 156) 3) ?v13_78_127 (by rfl) (by kernel_rfl) (by kernel_rfl) (by kernel_rfl) (fun _ _ _ h => h) (fun o ho w hS => ?y13_78_127) (by assumption) ?r13_78_127
      case y13_78_127 => (try dsimp only at hS); unfold execOp; simp only [ho]; go_simp; try with_reducible rfl
      try simp only [Act.put, List.setIfInBounds_toArray, List.set_cons_zero, List.set_cons_succ]
      refine held_run 49 (some 158) (.pick (.tmp 146) (.const (Value.bool true)) (.tmp 157)) ?v13_78_128 (by rfl) (by kernel_rfl) (by kernel_rfl) (by kernel_rfl) (fun _ _ _ h => h) (fun o ho w hS => ?y13_78_128) (by assumption) ?r13_78_128
      case y13_78_128 => (try dsimp only at hS); unfold execOp; simp only [ho]; go_simp; try with_reducible rfl
      try simp only [Act.put, List.setIfInBounds_toArray, List.set_cons_zero, List.set_cons_succ]
      refine held_run 50 (some 159) (.move (.tmp 158)) ?v13_78_129 (by rfl) (by kernel_rfl) (by kernel_rfl) (by kernel_rfl) (fun _ _ _ h => h) (fun o ho w hS => ?y13_78_129) (by assumption) ?r13_78_129
      case y13_78_129 => (try dsimp only at hS); unfold execOp; simp only [ho]; go_simp; try with_reducible rfl
      try simp only [Act.put, List.setIfInBounds_toArray, List.set_cons_zero, List.set_cons_succ]
      refine held_run 51 (some 160) (.move (.tmp 19)) ?v13_78_130 (by rfl) (by kernel_rfl) (by kernel_rfl) (by kernel_rfl) (fun _ _ _ h => h) (fun o ho w hS => ?y13_78_130) (by assumption) ?r13_78_130
      case y13_78_130 => (try dsimp only at hS); unfold execOp; simp only [ho]; go_simp; try with_reducible rfl
      try simp only [Act.put, List.setIfInBounds_toArray, List.set_cons_zero, List.set_cons_succ]
      refine held_run 52 (some 161) (.move (.tmp 21)) ?v13_78_131 (by rfl) (by kernel_rfl) (by kernel_rfl) (by kernel_rfl) (fun _ _ _ h => h) (fun o ho w hS => ?y13_78_131) (by assumption) ?r13_78_131
      case y13_78_131 => (try dsimp only at hS); unfold execOp; simp only [ho]; go_simp; try with_reducible rfl
      try simp only [Act.put, List.setIfInBounds_toArray, List.set_cons_zero, List.set_cons_succ]
      refine held_run 53 (some 162) (.indexAddr 22 (.tmp 160) (.tmp 161)) ?v13_78_132 (by rfl) (by kernel_rfl) (by kernel_rfl) (by kernel_rfl) (fun _ _ _ h => h) (fun o ho w hS => ?y13_78_132) (by assumption) ?r13_78_132
      case y13_78_132 => (try dsimp only at hS); unfold execOp; simp only [ho]; go_simp; try with_reducible rfl
      try simp only [Act.put, List.setIfInBounds_toArray, List.set_cons_zero, List.set_cons_succ]
      refine held_run 54 (some 163) (.fieldAddr 51 (.tmp 162) 7) ?v13_78_133 (by rfl) (by kernel_rfl) (by kernel_rfl) (by kernel_rfl) (fun _ _ _ h => h) (fun o ho w hS => ?y13_78_133) (by assumption) ?r13_78_133
      case y13_78_133 => (try dsimp only at hS); unfold execOp; simp only [ho]; go_simp; try with_reducible rfl
      try simp only [Act.put, List.setIfInBounds_toArray, List.set_cons_zero, List.set_cons_succ]
      refine held_run 55 (some 164) (.load 4 (.tmp 163)) ?v13_78_134 (by rfl) (by kernel_rfl) (by kernel_rfl) (by kernel_rfl) (fun _ _ _ h => h) (fun o ho w hS => ?y13_78_134) (by assumption) ?r13_78_134
      case y13_78_134 => (try dsimp only at hS); unfold execOp; simp only [ho]; go_simp; try with_reducible rfl
      try simp only [Act.put, List.setIfInBounds_toArray, List.set_cons_zero, List.set_cons_succ]
      refine held_run 56 (some 165) (.move (.tmp 1)) ?v13_78_135 (by rfl) (by kernel_rfl) (by kernel_rfl) (by kernel_rfl) (fun _ _ _ h => h) (fun o ho w hS => ?y13_78_135) (by assumption) ?r13_78_135
      case y13_78_135 => (try dsimp only at hS); unfold execOp; simp only [ho]; go_simp; try with_reducible rfl
      try simp only [Act.put, List.setIfInBounds_toArray, List.set_cons_zero, List.set_cons_succ]
      refine held_run 57 (some 166) (.move (.tmp 21)) ?v13_78_136 (by rfl) (by kernel_rfl) (by kernel_rfl) (by kernel_rfl) (fun _ _ _ h => h) (fun o ho w hS => ?y13_78_136) (by assumption) ?r13_78_136
      case y13_78_136 => (try dsimp only at hS); unfold execOp; simp only [ho]; go_simp; try with_reducible rfl
      try simp only [Act.put, List.setIfInBounds_toArray, List.set_cons_zero, List.set_cons_succ]
      refine held_run 58 (some 167) (.indexAddr 22 (.tmp 165) (.tmp 166)) ?v13_78_137 (by rfl) (by kernel_rfl) (by kernel_rfl) (by kernel_rfl) (fun _ _ _ h => h) (fun o ho w hS => ?y13_78_137) (by assumption) ?r13_78_137
      case y13_78_137 => (try dsimp only at hS); unfold execOp; simp only [ho]; go_simp; try with_reducible rfl
      try simp only [Act.put, List.setIfInBounds_toArray, List.set_cons_zero, List.set_cons_succ]
      refine held_run 59 (some 168) (.fieldAddr 51 (.tmp 167) 7) ?v13_78_138 (by rfl) (by kernel_rfl) (by kernel_rfl) (by kernel_rfl) (fun _ _ _ h => h) (fun o ho w hS => ?y13_78_138) (by assumption) ?r13_78_138
      case y13_78_138 => (try dsimp only at hS); unfold execOp; simp only [ho]; go_simp; try with_reducible rfl
      try simp only [Act.put, List.setIfInBounds_toArray, List.set_cons_zero, List.set_cons_succ]
      refine held_run 60 (some 169) (.load 4 (.tmp 168)) ?v13_78_139 (by rfl) (by kernel_rfl) (by kernel_rfl) (by kernel_rfl) (fun _ _ _ h => h) (fun o ho w hS => ?y13_78_139) (by assumption) ?r13_78_139
      case y13_78_139 => (try dsimp only at hS); unfold execOp; simp only [ho]; go_simp; try with_reducible rfl
      try simp only [Act.put, List.setIfInBounds_toArray, List.set_cons_zero, List.set_cons_succ]
      refine held_run 61 (some 170) (.binOp .neq 4 (.tmp 164) (.tmp 169) 4) ?v13_78_140 (by rfl) (by kernel_rfl) (by kernel_rfl) (by kernel_rfl) (fun _ _ _ h => h) (fun o ho w hS => ?y13_78_140) (by assumption) ?r13_78_140
      case y13_78_140 => (try dsimp only at hS); unfold execOp; simp only [ho]; go_simp; try with_reducible rfl
      try simp only [Act.put, List.setIfInBounds_toArray, List.set_cons_zero, List.set_cons_succ]
      refine held_run 62 (some 171) (.pick (.tmp 159) (.const (Value.bool true)) (.tmp 170)) ?v13_78_141 (by rfl) (by kernel_rfl) (by kernel_rfl) (by kernel_rfl) (fun _ _ _ h => h) (fun o ho w hS => ?y13_78_141) (by assumption) ?r13_78_141
      case y13_78_141 => (try dsimp only at hS); unfold execOp; simp only [ho]; go_simp; try with_reducible rfl
      try simp only [Act.put, List.setIfInBounds_toArray, List.set_cons_zero, List.set_cons_succ]
      refine held_run 63 (some 172) (.move (.tmp 171)) ?v13_78_142 (by rfl) (by kernel_rfl) (by kernel_rfl) (by kernel_rfl) (fun _ _ _ h => h) (fun o ho w hS => ?y13_78_142) (by assumption) ?r13_78_142
      case y13_78_142 => (try dsimp only at hS); unfold execOp; simp only [ho]; go_simp; try with_reducible rfl
      try simp only [Act.put, List.setIfInBounds_toArray, List.set_cons_zero, List.set_cons_succ]
      refine held_run 64 (some 173) (.move (.tmp 19)) ?v13_78_143 (by rfl) (by kernel_rfl) (by kernel_rfl) (by kernel_rfl) (fun _ _ _ h => h) (fun o ho w hS => ?y13_78_143) (by assumption) ?r13_78_143
      case y13_78_143 => (try dsimp only at hS); unfold execOp; simp only [ho]; go_simp; try with_reducible rfl
      try simp only [Act.put, List.setIfInBounds_toArray, List.set_cons_zero, List.set_cons_succ]
      refine held_run 65 (some 174) (.move (.tmp 21)) ?v13_78_144 (by rfl) (by kernel_rfl) (by kernel_rfl) (by kernel_rfl) (fun _ _ _ h => h) (fun o ho w hS => ?y13_78_144) (by assumption) ?r13_78_144
      case y13_78_144 => (try dsimp only at hS); unfold execOp; simp only [ho]; go_simp; try with_reducible rfl
      try simp only [Act.put, List.setIfInBounds_toArray, List.set_cons_zero, List.set_cons_succ]
      refine held_run 66 (some 175) (.indexAddr 22 (.tmp 173) (.tmp 174)) ?v13_78_145 (by rfl) (by kernel_rfl) (by kernel_rfl) (by kernel_rfl) (fun _ _ _ h => h) (fun o ho w hS => ?y13_78_145) (by assumption) ?r13_78_145
      case y13_78_145 => (try dsimp only at hS); unfold execOp; simp only [ho]; go_simp; try with_reducible rfl
      try simp only [Act.put, List.setIfInBounds_toArray, List.set_cons_zero, List.set_cons_succ]
      refine held_run 67 (some 176) (.fieldAddr 51 (.tmp 175) 2) ?v13_78_146 (by rfl) (by kernel_rfl) (by kernel_rfl) (by kernel_rfl) (fun _ _ _ h => h) (fun o ho w hS => ?y13_78_146) (by assumption) ?r13_78_146
      case y13_78_146 => (try dsimp only at hS); unfold execOp; simp only [ho]; go_simp; try with_reducible rfl
      try simp only [Act.put, List.setIfInBounds_toArray, List.set_cons_zero, List.set_cons_succ]
      refine held_run 68 (some 177) (.load 3 (.tmp 176)) ?v13_78_147 (by rfl) (by kernel_rfl) (by kernel_rfl) (by kernel_rfl) (fun _ _ _ h => h) (fun o ho w hS => ?y13_78_147) (by assumption) ?r13_78_147
      case y13_78_147 => (try dsimp only at hS); unfold execOp; simp only [ho]; go_simp; try with_reducible rfl
      try simp only [Act.put, List.setIfInBounds_toArray, List.set_cons_zero, List.set_cons_succ]
      refine held_run 69 (some 178) (.move (.tmp 1)) ?v13_78_148 (by rfl) (by kernel_rfl) (by kernel_rfl) (by kernel_rfl) (fun _ _ _ h => h) (fun o ho w hS => ?y13_78_148) (by assumption) ?r13_78_148
      case y13_78_148 => (try dsimp only at hS); unfold execOp; simp only [ho]; go_simp; try with_reducible rfl
      try simp only [Act.put, List.setIfInBounds_toArray, List.set_cons_zero, List.set_cons_succ]
      refine held_run 70 (some 179) (.move (.tmp 21)) ?v13_78_149 (by rfl) (by kernel_rfl) (by kernel_rfl) (by kernel_rfl) (fun _ _ _ h => h) (fun o ho w hS => ?y13_78_149) (by assumption) ?r13_78_149
      case y13_78_149 => (try dsimp only at hS); unfold execOp; simp only [ho]; go_simp; try with_reducible rfl
      try simp only [Act.put, List.setIfInBounds_toArray, List.set_cons_zero, List.set_cons_succ]
      refine held_run 71 (some 180) (.indexAddr 22 (.tmp 178) (.tmp 179)) ?v13_78_150 (by rfl) (by kernel_rfl) (by kernel_rfl) (by kernel_rfl) (fun _ _ _ h => h) (fun o ho w hS => ?y13_78_150) (by assumption) ?r13_78_150
      case y13_78_150 => (try dsimp only at hS); unfold execOp; simp only [ho]; go_simp; try with_reducible rfl
      try simp only [Act.put, List.setIfInBounds_toArray, List.set_cons_zero, List.set_cons_succ]
      refine held_run 72 (some 181) (.fieldAddr 51 (.tmp 180) 2) ?v13_78_151 (by rfl) (by kernel_rfl) (by kernel_rfl) (by kernel_rfl) (fun _ _ _ h => h) (fun o ho w hS => ?y13_78_151) (by assumption) ?r13_78_151
      case y13_78_151 => (try dsimp only at hS); unfold execOp; simp only [ho]; go_simp; try with_reducible rfl
      try simp only [Act.put, List.setIfInBounds_toArray, List.set_cons_zero, List.set_cons_succ]
      refine held_run 73 (some 182) (.load 3 (.tmp 181)) ?v13_78_152 (by rfl) (by kernel_rfl) (by kernel_rfl) (by kernel_rfl) (fun _ _ _ h => h) (fun o ho w hS => ?y13_78_152) (by assumption) ?r13_78_152
      case y13_78_152 => (try dsimp only at hS); unfold execOp; simp only [ho]; go_simp; try with_reducible rfl
      try simp only [Act.put, List.setIfInBounds_toArray, List.set_cons_zero, List.set_cons_succ]
      refine held_run 74 (some 183) (.binOp .neq 3 (.tmp 177) (.tmp 182) 3) ?v13_78_153 (by rfl) (by kernel_rfl) (by kernel_rfl) (by kernel_rfl) (fun _ _ _ h => h) (fun o ho w hS => ?y13_78_153) (by assumption) ?r13_78_153
      case y13_78_153 => (try dsimp only at hS); unfold execOp; simp only [ho]; go_simp; try with_reducible rfl
      try simp only [Act.put, List.setIfInBounds_toArray, List.set_cons_zero, List.set_cons_succ]
      refine held_run 75 (some 184) (.pick (.tmp 172) (.const (Value.bool true)) (.tmp 183)) ?v13_78_154 (by rfl) (by kernel_rfl) (by kernel_rfl) (by kernel_rfl) (fun _ _ _ h => h) (fun o ho w hS => ?y13_78_154) (by assumption) ?r13_78_154
      case y13_78_154 => (try dsimp only at hS); unfold execOp; simp only [ho]; go_simp; try with_reducible rfl
      try simp only [Act.put, List.setIfInBounds_toArray, List.set_cons_zero, List.set_cons_succ]
      refine wpAnyH_done (by kernel_rfl) ?_ _
      clear f0 f2 f7 g0 g2 g7 L0
      go_wp2_with fail
      go_roundw
      case rel => exact ⟨k + 1, by omega, by go_num, HBo.out.drew⟩
      case measure => simp [intOf]; omega
end Go.Proofs.Ytegijfmdjaehjaa
