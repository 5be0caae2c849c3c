/-
  GroomerTimes answers true for every input. Its conditions: none. (One heavy walk.)
-/
import Derived.Test.YtegijfmdjaehjaaRows
import Derived.Test.YtegijfmdjaehjaaGruT
namespace Go.Proofs.Ytegijfmdjaehjaa
open Go.ChangeShapes Go.WideShapes Go.ChangeAt Go.RowKit

set_option maxRecDepth 100000 in
set_option maxHeartbeats 40000000 in
theorem groomerTimes_any (w : World) (vn vl vr vb : Value) (nd : List Nd) (lf : List Lf) (rs : List Rn) (bs : List Int) (hnd : StrV Nd.cells 2 w w.heap.size vn nd) (hlf : StrV Lf.cells 8 w w.heap.size vl lf) (hrs : StrV Rn.cells 7 w w.heap.size vr rs) (hbs : RowV w w.heap.size vb bs) (v : Value) (l : List Gr) (hv : GrV w w.heap.size v l) (gi : Int) (tgt : Int) (rg : Int) (s_ : Int) (x0 x1 : Int) :
    Calls Try.prog 8 #[.agg #[vn, vl, vr, vb], v, .int .i64 gi, .int .i64 tgt, .int .i64 rg, .int .i64 s_, .agg #[.int .i64 x0, .int .i64 x1]] w fun e w' => e = .returned (.bool true) ∧ Below w.heap.size w w' := by
  have HM := Lib.hid hnd
  have HL := Lib.hid hlf
  have HR := Lib.hid hrs
  have HS := Lib.hid hbs
  obtain ⟨A, n, c, rfl, HN, hc1, hc2, hr⟩ := hv.nam
  have HV := Lib.hid hv
  clear hv hr hnd hlf hrs hbs hc1 hc2
  go_enter Try.func8, Try.ntmps8
  go_wp2_with fail
  have HBwz0 := (Blk.new w 32 #[vn, vl, vr, vb])
  have HLwz0 := (below_new w (.cells #[vn, vl, vr, vb] 32))
  have hswz0 : (w.alloc (.cells #[vn, vl, vr, vb] 32)).heap.size = w.heap.size + 1 := by simp
  generalize w.alloc (.cells #[vn, vl, vr, vb] 32) = wz0 at HBwz0 HLwz0 hswz0 ⊢
  replace HBwz0 := Lib.hid HBwz0
  replace HLwz0 := Lib.hid HLwz0
  have hlwz0 : w.heap.size < wz0.heap.size := by omega
  replace hswz0 := Lib.hid hswz0
  have HBwb := (Blk.new wz0 49 #[.int .i64 x0, .int .i64 x1])
  have HLwb := (below_new wz0 (.cells #[.int .i64 x0, .int .i64 x1] 49))
  have hswb : (wz0.alloc (.cells #[.int .i64 x0, .int .i64 x1] 49)).heap.size = wz0.heap.size + 1 := by simp
  generalize wz0.alloc (.cells #[.int .i64 x0, .int .i64 x1] 49) = wb at HBwb HLwb hswb ⊢
  replace HBwb := Lib.hid HBwb
  replace HLwb := Lib.hid HLwb
  have hlwb : wz0.heap.size < wb.heap.size := by omega
  replace hswb := Lib.hid hswb
  have HQ1 := Lib.hid (HLwz0.out.trans (HLwb.out.mono HLwz0.out.size))
  have HWb := Lib.hid (HQ1.out)
  have hl0 : w.heap.size ≤ wb.heap.size := HWb.out.size
  have HBb : Hid (Below wb.heap.size wb wb) := hide (Below.refl _ _)
  have hszb : wb.heap.size ≤ wb.heap.size := Nat.le_refl _
  have HZ0_1 := Lib.hid (HBwz0.out.below HLwb.out hlwz0)
  have hz0_1 : w.heap.size < wb.heap.size := HZ0_1.out.lt
  have HX0b : Hid (Blk wb w.heap.size 32 #[vn, vl, vr, vb]) := hide HZ0_1.out
  have hxx0 : w.heap.size < wb.heap.size := HX0b.out.lt
  have HX1b : Hid (Blk wb (w.heap.size + 1) 49 #[.int .i64 x0, .int .i64 x1]) := hide (by have h := HBwb.out; rw [show wz0.heap.size = w.heap.size + 1 from by have := hswz0.out; omega] at h; exact h)
  have hxx1 : (w.heap.size + 1) < wb.heap.size := HX1b.out.lt
  clear HBwz0 HLwz0 hswz0 hlwz0
  clear HBwb HLwb hswb hlwb
  have HMb := Lib.hid (HM.out.now HWb.out)
  have HLb := Lib.hid (HL.out.now HWb.out)
  have HRb := Lib.hid (HR.out.now HWb.out)
  have HSb := Lib.hid (HS.out.now HWb.out)
  have HVb := Lib.hid (HV.out.now HWb.out)
  with_reducible refine (alive_any _).mono ?_
  rintro e w1 ⟨rfl, hb1⟩
  have HB1 := Lib.hid (HBb.out.trans (hb1.mono hszb))
  have HW1 := Lib.hid (HWb.out.trans (hb1.mono HWb.out.size))
  have hsz1 : wb.heap.size ≤ w1.heap.size := Nat.le_trans hszb hb1.size
  have HX01 := Lib.hid (HX0b.out.below hb1 (Nat.lt_of_lt_of_le hxx0 hszb))
  have HX11 := Lib.hid (HX1b.out.below hb1 (Nat.lt_of_lt_of_le hxx1 hszb))
  have HM1 := Lib.hid (HMb.out.now hb1)
  have HL1 := Lib.hid (HLb.out.now hb1)
  have HR1 := Lib.hid (HRb.out.now hb1)
  have HS1 := Lib.hid (HSb.out.now hb1)
  have HV1 := Lib.hid (HVb.out.now hb1)
  clear hb1
  go_wp2_with fail
  with_reducible refine (lfind_any _ l gi w1 HV1.out).mono ?_
  rintro e w2 ⟨rfl, hb2⟩
  have HB2 := Lib.hid (HB1.out.trans (hb2.mono hsz1))
  have HW2 := Lib.hid (HW1.out.trans (hb2.mono HW1.out.size))
  have hsz2 : wb.heap.size ≤ w2.heap.size := Nat.le_trans hsz1 hb2.size
  have HX02 := Lib.hid (HX01.out.below hb2 (Nat.lt_of_lt_of_le hxx0 hsz1))
  have HX12 := Lib.hid (HX11.out.below hb2 (Nat.lt_of_lt_of_le hxx1 hsz1))
  have HM2 := Lib.hid (HM1.out.now hb2)
  have HL2 := Lib.hid (HL1.out.now hb2)
  have HR2 := Lib.hid (HR1.out.now hb2)
  have HS2 := Lib.hid (HS1.out.now hb2)
  have HV2 := Lib.hid (HV1.out.now hb2)
  clear hb2
  obtain ⟨z, hz⟩ : ∃ z, lfX l gi = z := ⟨_, rfl⟩
  obtain ⟨zb, hzb⟩ : ∃ b, lfB l gi = b := ⟨_, rfl⟩
  rw [hz, hzb]
  have HFk : Hid (zb = true → ∃ k : Nat, findG l gi = (k : Int) ∧ l.getD k gr0 = z) := fun h => by
    rcases findG_cases l gi with h1 | ⟨k, h1, h2, h3⟩
    · rw [(lf_no h1).2] at hzb; rw [← hzb] at h; cases h
    · exact ⟨k, h1, (lf_yes h1).1.symm.trans hz⟩
  clear hz hzb
  obtain ⟨id, nod, fuel, st, tg, run, til, win⟩ := z
  go_upto_region 4 with (fail)
  have HBw3 := (Blk.new w2 51 #[.int .i64 id, .int .i64 nod, .int .i64 fuel, .int .i64 st, .int .i64 tg, .int .i64 run, .int .i64 til, .bool win])
  have HLw3 := (below_new w2 (.cells #[.int .i64 id, .int .i64 nod, .int .i64 fuel, .int .i64 st, .int .i64 tg, .int .i64 run, .int .i64 til, .bool win] 51))
  have hsw3 : (w2.alloc (.cells #[.int .i64 id, .int .i64 nod, .int .i64 fuel, .int .i64 st, .int .i64 tg, .int .i64 run, .int .i64 til, .bool win] 51)).heap.size = w2.heap.size + 1 := by simp
  generalize w2.alloc (.cells #[.int .i64 id, .int .i64 nod, .int .i64 fuel, .int .i64 st, .int .i64 tg, .int .i64 run, .int .i64 til, .bool win] 51) = w3 at HBw3 HLw3 hsw3 ⊢
  replace HBw3 := Lib.hid HBw3
  replace HLw3 := Lib.hid HLw3
  have hlw3 : w2.heap.size < w3.heap.size := by omega
  replace hsw3 := Lib.hid hsw3
  have hb3 := HLw3.out
  have HLg3 := HBw3
  clear HBw3 HLw3 hsw3 hlw3
  have HB3 := Lib.hid (HB2.out.trans (hb3.mono hsz2))
  have HW3 := Lib.hid (HW2.out.trans (hb3.mono HW2.out.size))
  have hsz3 : wb.heap.size ≤ w3.heap.size := Nat.le_trans hsz2 hb3.size
  have HX03 := Lib.hid (HX02.out.below hb3 (Nat.lt_of_lt_of_le hxx0 hsz2))
  have HX13 := Lib.hid (HX12.out.below hb3 (Nat.lt_of_lt_of_le hxx1 hsz2))
  have HM3 := Lib.hid (HM2.out.now hb3)
  have HL3 := Lib.hid (HL2.out.now hb3)
  have HR3 := Lib.hid (HR2.out.now hb3)
  have HS3 := Lib.hid (HS2.out.now hb3)
  have HV3 := Lib.hid (HV2.out.now hb3)
  clear hb3
  go_wp2_with
    (first
     | (refine wpList_load_g 32 (.tmp 7) rfl rfl w.heap.size rfl _ _ HX03.out _ Try.underlying32 rfl (by kernel_rfl) ?_))
  with_reducible refine (defined_any vn vl vr vb nd lf rs bs _ l _ HM3.out HL3.out HR3.out HS3.out HV3.out).mono ?_
  rintro e w4 ⟨db, rfl, hdb, hb4⟩
  have HD := Lib.hid hdb
  clear hdb
  have HB4 := Lib.hid (HB3.out.trans (hb4.mono hsz3))
  have HW4 := Lib.hid (HW3.out.trans (hb4.mono HW3.out.size))
  have hsz4 : wb.heap.size ≤ w4.heap.size := Nat.le_trans hsz3 hb4.size
  have HX04 := Lib.hid (HX03.out.below hb4 (Nat.lt_of_lt_of_le hxx0 hsz3))
  have HX14 := Lib.hid (HX13.out.below hb4 (Nat.lt_of_lt_of_le hxx1 hsz3))
  have HLg4 := Lib.hid (HLg3.out.below hb4 HLg3.out.lt)
  have HM4 := Lib.hid (HM3.out.now hb4)
  have HL4 := Lib.hid (HL3.out.now hb4)
  have HR4 := Lib.hid (HR3.out.now hb4)
  have HS4 := Lib.hid (HS3.out.now hb4)
  have HV4 := Lib.hid (HV3.out.now hb4)
  clear hb4
  cases db with
  | false =>
    go_wp2_with fail
    try go_ret
    exact ⟨rfl, HW4.out⟩
  | true =>
    have HMk := Lib.hid (HD.out rfl).1
    have HOk := Lib.hid (HD.out rfl).2
    clear HD
    cases zb with
    | false =>
      go_wp2_with fail
      try go_ret
      exact ⟨rfl, HW4.out⟩
    | true =>
      obtain ⟨k, hk1, hk2⟩ := HFk.out rfl
      have HK1 := Lib.hid hk1
      have HK2 := Lib.hid hk2
      have HIg := Lib.hid (inG_iff (hk2 ▸ HOk.out.inn _ (gr_mem (findG_spec hk1).1)))
      simp only at HIg
      clear hk1 hk2 HFk
      obtain ⟨⟨la, ca⟩, hqa⟩ : ∃ q, sendG (fun u => wayO nd lf rs u tgt) l gi tgt x0 = q := ⟨_, rfl⟩
      obtain ⟨⟨lb, cb⟩, hqb⟩ : ∃ q, groomG rs l gi rg s_ x0 = q := ⟨_, rfl⟩
      have HSA : Hid (ca = 0 → ∃ m, wayO nd lf rs nod tgt = some m ∧ (0 ≤ m ∧ m ≤ 1000000000000) ∧ (0 ≤ x0 ∧ x0 ≤ 20000000) ∧ la.length ≤ 16 ∧ findG la gi = (k : Int) ∧ la.getD k gr0 = ⟨id, nod, fuel - 2 * m, 1, tgt, run, x0 + (m + 2) / 3, win⟩) := fun h => send_at HMk.out HOk.out HK1.out HK2.out (by rw [hqa, h])
      have HSB : Hid (cb = 0 → hasR rs rg = true ∧ (1 ≤ s_ ∧ s_ ≤ 86400) ∧ (0 ≤ x0 ∧ x0 ≤ 20000000) ∧ lb.length ≤ 16 ∧ onG lb rg = true ∧ findG lb gi = (k : Int) ∧ lb.getD k gr0 = ⟨id, nod, fuel - 5 * s_, 2, tg, rg, x0 + s_, win⟩) := fun h => groom_at HOk.out HK1.out HK2.out (by rw [hqb, h])
      have HNB : Hid (cb ≠ 0 → lb = []) := fun h => groom_no hqb h
      have HC1 : Hid (∀ W : World, StrV Nd.cells 2 W W.heap.size vn nd → StrV Lf.cells 8 W W.heap.size vl lf → StrV Rn.cells 7 W W.heap.size vr rs → GrV W W.heap.size (.slice A n c) l → Calls Try.prog 18 #[.agg #[vn, vl, vr, vb], .slice A n c, .int .i64 gi, .int .i64 tgt, .int .i64 x0] W (GrX la ca W)) := fun W h1 h2 h3 h4 => (gsend_any vn vl vr vb nd lf rs _ l gi tgt x0 W h1 h2 h3 h4 HMk.out.wy HOk.out.inn HOk.out.len).mono fun e w' h => h.grX hqa
      have HC2 : Hid (∀ W : World, StrV Nd.cells 2 W W.heap.size vn nd → StrV Lf.cells 8 W W.heap.size vl lf → StrV Rn.cells 7 W W.heap.size vr rs → GrV W W.heap.size (.slice A n c) l → Calls Try.prog 21 #[.agg #[vn, vl, vr, vb], .slice A n c, .int .i64 gi, .int .i64 rg, .int .i64 s_, .int .i64 x0] W (GrX lb cb W)) := fun W h1 h2 h3 h4 => (ggroom_any vn vl vr vb rs _ l gi rg s_ x0 W h3 h4 HOk.out.inn HOk.out.len).mono fun e w' h => h.grX hqb
      have HWy : Hid (∀ (m : Int) (W : World), wayO nd lf rs nod tgt = some m → StrV Nd.cells 2 W W.heap.size vn nd → StrV Lf.cells 8 W W.heap.size vl lf → StrV Rn.cells 7 W W.heap.size vr rs → Calls Try.prog 15 #[.agg #[vn, vl, vr, vb], .int .i64 nod, .int .i64 tgt] W fun e w' => e = .returned (.tuple #[.int .i64 m, .bool true]) ∧ Below W.heap.size W w') := fun m W h h1 h2 h3 => by
        have h4 := way_any vn vl vr vb nd lf rs nod tgt W h1 h2 h3 HMk.out.wy
        rw [h] at h4
        exact h4
      clear hqa hqb
      have p0 : w4.cell? ⟨w.heap.size + 1, 0, none⟩ = some (.int .i64 x0) := HX14.out.cell 0
      have p1 : w4.cell? ⟨w.heap.size + 1, 1, none⟩ = some (.int .i64 x1) := HX14.out.cell 1
      go_wp2_with
        (first
         | (refine wpList_load_g 32 (.tmp 7) rfl rfl w.heap.size rfl _ _ HX04.out _ Try.underlying32 rfl (by kernel_rfl) ?_))
      with_reducible refine (HC1.out _ HM4.out HL4.out HR4.out HV4.out).mono ?_
      rintro e w5 ⟨va, rfl, hva, hb5⟩
      have HB5 := Lib.hid (HB4.out.trans (hb5.mono hsz4))
      have HW5 := Lib.hid (HW4.out.trans (hb5.mono HW4.out.size))
      have hsz5 : wb.heap.size ≤ w5.heap.size := Nat.le_trans hsz4 hb5.size
      have HX05 := Lib.hid (HX04.out.below hb5 (Nat.lt_of_lt_of_le hxx0 hsz4))
      have HX15 := Lib.hid (HX14.out.below hb5 (Nat.lt_of_lt_of_le hxx1 hsz4))
      have HLg5 := Lib.hid (HLg4.out.below hb5 HLg4.out.lt)
      have HM5 := Lib.hid (HM4.out.now hb5)
      have HL5 := Lib.hid (HL4.out.now hb5)
      have HR5 := Lib.hid (HR4.out.now hb5)
      have HS5 := Lib.hid (HS4.out.now hb5)
      have HV5 := Lib.hid (HV4.out.now hb5)
      have HA5 := Lib.hid hva
      clear hb5 hva p0 p1 HC1
      obtain ⟨qa, hqa⟩ : ∃ b, (ca == 0) = b := ⟨_, rfl⟩
      have HQa : Hid (qa = true → ca = 0) := fun h => by rw [h] at hqa; exact beq_iff_eq.1 hqa
      skip
      have HId : Hid (id = gi) := hide (by have h := (findG_spec HK1.out).2; rw [HK2.out] at h; exact h)
      cases qa with
      | false =>
        skip
        have p0 : w5.cell? ⟨w.heap.size + 1, 0, none⟩ = some (.int .i64 x0) := HX15.out.cell 0
        have p1 : w5.cell? ⟨w.heap.size + 1, 1, none⟩ = some (.int .i64 x1) := HX15.out.cell 1
        go_wp2_with
          (first
           | (refine wpList_load_g 32 (.tmp 7) rfl rfl w.heap.size rfl _ _ HX05.out _ Try.underlying32 rfl (by kernel_rfl) ?_))
        with_reducible refine (HC2.out _ HM5.out HL5.out HR5.out HV5.out).mono ?_
        rintro e w20 ⟨v20, rfl, hva, hb20⟩
        have HB20 := Lib.hid (HB5.out.trans (hb20.mono hsz5))
        have HW20 := Lib.hid (HW5.out.trans (hb20.mono HW5.out.size))
        have hsz20 : wb.heap.size ≤ w20.heap.size := Nat.le_trans hsz5 hb20.size
        have HX020 := Lib.hid (HX05.out.below hb20 (Nat.lt_of_lt_of_le hxx0 hsz5))
        have HX120 := Lib.hid (HX15.out.below hb20 (Nat.lt_of_lt_of_le hxx1 hsz5))
        have HLg20 := Lib.hid (HLg5.out.below hb20 HLg5.out.lt)
        have HM20 := Lib.hid (HM5.out.now hb20)
        have HL20 := Lib.hid (HL5.out.now hb20)
        have HR20 := Lib.hid (HR5.out.now hb20)
        have HS20 := Lib.hid (HS5.out.now hb20)
        have HV20 := Lib.hid (HV5.out.now hb20)
        have HY20 := Lib.hid hva
        clear hb20 p0 p1 HC2
        by_cases zc : cb = 0
        rotate_left
        · have d0 : (cb != 0) = true := bne_iff_ne.2 zc
          rw [HNB.out zc] at hva
          obtain ⟨A3, n3, c3, rfl, HN3, _, _, _⟩ := hva.nam
          obtain rfl : 0 = n3 := HN3.out
          go_wp2_with fail
          try go_ret
          exact ⟨rfl, HW20.out⟩
        obtain ⟨b1, ⟨b2, b3⟩, ⟨b4, b5⟩, b6, b7, b8, b9⟩ := HSB.out zc
        subst zc
        clear hva
        have HF2 : Hid (∀ (W : World), GrV W W.heap.size v20 lb → Calls Try.prog 28 #[v20, .int .i64 gi] W fun e w' => e = .returned (.tuple #[.agg #[.int .i64 id, .int .i64 nod, .int .i64 (fuel - 5 * s_), .int .i64 2, .int .i64 tg, .int .i64 rg, .int .i64 (x0 + s_), .bool win], .bool true]) ∧ Below W.heap.size W w') := fun W h => by
          have h1 := lfind_any v20 _ gi W h
          have h2 := lf_yes b8
          rw [b9] at h2
          rw [h2.1, h2.2] at h1
          exact h1
        go_wp2_with fail
        with_reducible refine (HF2.out w20 HY20.out).mono ?_
        rintro e w21 ⟨rfl, hb21⟩
        have HY21 := Lib.hid (HY20.out.now hb21)
        have HB21 := Lib.hid (HB20.out.trans (hb21.mono hsz20))
        have HW21 := Lib.hid (HW20.out.trans (hb21.mono HW20.out.size))
        have hsz21 : wb.heap.size ≤ w21.heap.size := Nat.le_trans hsz20 hb21.size
        have HX021 := Lib.hid (HX020.out.below hb21 (Nat.lt_of_lt_of_le hxx0 hsz20))
        have HX121 := Lib.hid (HX120.out.below hb21 (Nat.lt_of_lt_of_le hxx1 hsz20))
        have HLg21 := Lib.hid (HLg20.out.below hb21 HLg20.out.lt)
        have HM21 := Lib.hid (HM20.out.now hb21)
        have HL21 := Lib.hid (HL20.out.now hb21)
        have HR21 := Lib.hid (HR20.out.now hb21)
        have HS21 := Lib.hid (HS20.out.now hb21)
        have HV21 := Lib.hid (HV20.out.now hb21)
        clear hb21
        go_upto_region 16 with (fail)
        have HBw22 := (Blk.new w21 51 #[.int .i64 id, .int .i64 nod, .int .i64 (fuel - 5 * s_), .int .i64 2, .int .i64 tg, .int .i64 rg, .int .i64 (x0 + s_), .bool win])
        have HLw22 := (below_new w21 (.cells #[.int .i64 id, .int .i64 nod, .int .i64 (fuel - 5 * s_), .int .i64 2, .int .i64 tg, .int .i64 rg, .int .i64 (x0 + s_), .bool win] 51))
        have hsw22 : (w21.alloc (.cells #[.int .i64 id, .int .i64 nod, .int .i64 (fuel - 5 * s_), .int .i64 2, .int .i64 tg, .int .i64 rg, .int .i64 (x0 + s_), .bool win] 51)).heap.size = w21.heap.size + 1 := by simp
        generalize w21.alloc (.cells #[.int .i64 id, .int .i64 nod, .int .i64 (fuel - 5 * s_), .int .i64 2, .int .i64 tg, .int .i64 rg, .int .i64 (x0 + s_), .bool win] 51) = w22 at HBw22 HLw22 hsw22 ⊢
        replace HBw22 := Lib.hid HBw22
        replace HLw22 := Lib.hid HLw22
        have hlw22 : w21.heap.size < w22.heap.size := by omega
        replace hsw22 := Lib.hid hsw22
        have hb22 := HLw22.out
        have HLx22 := HBw22
        clear HBw22 HLw22 hsw22 hlw22
        have HY22 := Lib.hid (HY21.out.now hb22)
        have HB22 := Lib.hid (HB21.out.trans (hb22.mono hsz21))
        have HW22 := Lib.hid (HW21.out.trans (hb22.mono HW21.out.size))
        have hsz22 : wb.heap.size ≤ w22.heap.size := Nat.le_trans hsz21 hb22.size
        have HX022 := Lib.hid (HX021.out.below hb22 (Nat.lt_of_lt_of_le hxx0 hsz21))
        have HX122 := Lib.hid (HX121.out.below hb22 (Nat.lt_of_lt_of_le hxx1 hsz21))
        have HLg22 := Lib.hid (HLg21.out.below hb22 HLg21.out.lt)
        have HM22 := Lib.hid (HM21.out.now hb22)
        have HL22 := Lib.hid (HL21.out.now hb22)
        have HR22 := Lib.hid (HR21.out.now hb22)
        have HS22 := Lib.hid (HS21.out.now hb22)
        have HV22 := Lib.hid (HV21.out.now hb22)
        clear hb22
        go_wp2_with
          (first
           | (refine wpList_load_g 32 (.tmp 7) rfl rfl w.heap.size rfl _ _ HX022.out _ Try.underlying32 rfl (by kernel_rfl) ?_))
        with_reducible refine (rrun_any _ _ _ _ rs rg w22 HR22.out).mono ?_
        rintro e w23 ⟨rfl, hb23⟩
        have HY23 := Lib.hid (HY22.out.now hb23)
        have HB23 := Lib.hid (HB22.out.trans (hb23.mono hsz22))
        have HW23 := Lib.hid (HW22.out.trans (hb23.mono HW22.out.size))
        have hsz23 : wb.heap.size ≤ w23.heap.size := Nat.le_trans hsz22 hb23.size
        have HX023 := Lib.hid (HX022.out.below hb23 (Nat.lt_of_lt_of_le hxx0 hsz22))
        have HX123 := Lib.hid (HX122.out.below hb23 (Nat.lt_of_lt_of_le hxx1 hsz22))
        have HLg23 := Lib.hid (HLg22.out.below hb23 HLg22.out.lt)
        have HLx23 := Lib.hid (HLx22.out.below hb23 HLx22.out.lt)
        have HM23 := Lib.hid (HM22.out.now hb23)
        have HL23 := Lib.hid (HL22.out.now hb23)
        have HR23 := Lib.hid (HR22.out.now hb23)
        have HS23 := Lib.hid (HS22.out.now hb23)
        have HV23 := Lib.hid (HV22.out.now hb23)
        clear hb23
        rw [b1]
        obtain ⟨q, hq⟩ : ∃ q, rnOf rs rg = q := ⟨_, rfl⟩
        rw [hq]
        obtain ⟨rid, rop, rfr, rtt, rgr, rzn, rln⟩ := q
        go_upto_region 17 with (fail)
        have HBw24 := (Blk.new w23 56 #[.int .i64 rid, .int .i64 rop, .int .i64 rfr, .int .i64 rtt, .int .i64 rgr, .int .i64 rzn, .int .i64 rln])
        have HLw24 := (below_new w23 (.cells #[.int .i64 rid, .int .i64 rop, .int .i64 rfr, .int .i64 rtt, .int .i64 rgr, .int .i64 rzn, .int .i64 rln] 56))
        have hsw24 : (w23.alloc (.cells #[.int .i64 rid, .int .i64 rop, .int .i64 rfr, .int .i64 rtt, .int .i64 rgr, .int .i64 rzn, .int .i64 rln] 56)).heap.size = w23.heap.size + 1 := by simp
        generalize w23.alloc (.cells #[.int .i64 rid, .int .i64 rop, .int .i64 rfr, .int .i64 rtt, .int .i64 rgr, .int .i64 rzn, .int .i64 rln] 56) = w24 at HBw24 HLw24 hsw24 ⊢
        replace HBw24 := Lib.hid HBw24
        replace HLw24 := Lib.hid HLw24
        have hlw24 : w23.heap.size < w24.heap.size := by omega
        replace hsw24 := Lib.hid hsw24
        have hb24 := HLw24.out
        have HLr24 := HBw24
        clear HBw24 HLw24 hsw24 hlw24
        have HY24 := Lib.hid (HY23.out.now hb24)
        have HB24 := Lib.hid (HB23.out.trans (hb24.mono hsz23))
        have HW24 := Lib.hid (HW23.out.trans (hb24.mono HW23.out.size))
        have hsz24 : wb.heap.size ≤ w24.heap.size := Nat.le_trans hsz23 hb24.size
        have HX024 := Lib.hid (HX023.out.below hb24 (Nat.lt_of_lt_of_le hxx0 hsz23))
        have HX124 := Lib.hid (HX123.out.below hb24 (Nat.lt_of_lt_of_le hxx1 hsz23))
        have HLg24 := Lib.hid (HLg23.out.below hb24 HLg23.out.lt)
        have HLx24 := Lib.hid (HLx23.out.below hb24 HLx23.out.lt)
        have HM24 := Lib.hid (HM23.out.now hb24)
        have HL24 := Lib.hid (HL23.out.now hb24)
        have HR24 := Lib.hid (HR23.out.now hb24)
        have HS24 := Lib.hid (HS23.out.now hb24)
        have HV24 := Lib.hid (HV23.out.now hb24)
        clear hb24
        have c0 : w24.cell? ⟨w2.heap.size, 0, none⟩ = some (.int .i64 id) := HLg24.out.cell 0
        have c1 : w24.cell? ⟨w2.heap.size, 1, none⟩ = some (.int .i64 nod) := HLg24.out.cell 1
        have c2 : w24.cell? ⟨w2.heap.size, 2, none⟩ = some (.int .i64 fuel) := HLg24.out.cell 2
        have c3 : w24.cell? ⟨w2.heap.size, 3, none⟩ = some (.int .i64 st) := HLg24.out.cell 3
        have c4 : w24.cell? ⟨w2.heap.size, 4, none⟩ = some (.int .i64 tg) := HLg24.out.cell 4
        have c5 : w24.cell? ⟨w2.heap.size, 5, none⟩ = some (.int .i64 run) := HLg24.out.cell 5
        have c6 : w24.cell? ⟨w2.heap.size, 6, none⟩ = some (.int .i64 til) := HLg24.out.cell 6
        have c7 : w24.cell? ⟨w2.heap.size, 7, none⟩ = some (.bool win) := HLg24.out.cell 7
        have y0 : w24.cell? ⟨w21.heap.size, 0, none⟩ = some (.int .i64 id) := HLx24.out.cell 0
        have y1 : w24.cell? ⟨w21.heap.size, 1, none⟩ = some (.int .i64 nod) := HLx24.out.cell 1
        have y2 : w24.cell? ⟨w21.heap.size, 2, none⟩ = some (.int .i64 (fuel - 5 * s_)) := HLx24.out.cell 2
        have y3 : w24.cell? ⟨w21.heap.size, 3, none⟩ = some (.int .i64 2) := HLx24.out.cell 3
        have y4 : w24.cell? ⟨w21.heap.size, 4, none⟩ = some (.int .i64 tg) := HLx24.out.cell 4
        have y5 : w24.cell? ⟨w21.heap.size, 5, none⟩ = some (.int .i64 rg) := HLx24.out.cell 5
        have y6 : w24.cell? ⟨w21.heap.size, 6, none⟩ = some (.int .i64 (x0 + s_)) := HLx24.out.cell 6
        have y7 : w24.cell? ⟨w21.heap.size, 7, none⟩ = some (.bool win) := HLx24.out.cell 7
        have r0 : w24.cell? ⟨w23.heap.size, 0, none⟩ = some (.int .i64 rid) := HLr24.out.cell 0
        have r1 : w24.cell? ⟨w23.heap.size, 1, none⟩ = some (.int .i64 rop) := HLr24.out.cell 1
        have r2 : w24.cell? ⟨w23.heap.size, 2, none⟩ = some (.int .i64 rfr) := HLr24.out.cell 2
        have r3 : w24.cell? ⟨w23.heap.size, 3, none⟩ = some (.int .i64 rtt) := HLr24.out.cell 3
        have r4 : w24.cell? ⟨w23.heap.size, 4, none⟩ = some (.int .i64 rgr) := HLr24.out.cell 4
        have r5 : w24.cell? ⟨w23.heap.size, 5, none⟩ = some (.int .i64 rzn) := HLr24.out.cell 5
        have r6 : w24.cell? ⟨w23.heap.size, 6, none⟩ = some (.int .i64 rln) := HLr24.out.cell 6
        have p0 : w24.cell? ⟨w.heap.size + 1, 0, none⟩ = some (.int .i64 x0) := HX124.out.cell 0
        have p1 : w24.cell? ⟨w.heap.size + 1, 1, none⟩ = some (.int .i64 x1) := HX124.out.cell 1
        have e5 : (rg == rg) = true := by simp
        have hig := HIg.out
        have hew : ((fuel - 5 * s_) == (fuel - 5 * s_)) = true := by simp
        have het : ((x0 + s_) == (x0 + s_)) = true := by simp
        have HOn : Hid (∀ (W : World), GrV W W.heap.size v20 lb → Calls Try.prog 26 #[v20, .int .i64 rg] W fun e w' => e = .returned (.bool true) ∧ Below W.heap.size W w') := fun W h => by
          have h1 := gon_any v20 lb rg W h
          rwa [b7] at h1
        have HEn : Hid (∀ (W : World), StrV Rn.cells 7 W W.heap.size vr rs → GrV W W.heap.size v20 lb → Calls Try.prog 29 #[.agg #[vn, vl, vr, vb], v20, .agg #[.int .i64 id, .int .i64 nod, .int .i64 (fuel - 5 * s_), .int .i64 2, .int .i64 tg, .int .i64 rg, .int .i64 (x0 + s_), .bool win], .int .i64 rtt, .int .i64 x1] W fun e w' => e = .returned (.bool true) ∧ Below W.heap.size W w') := fun W h h2 => ends_any vn vl vr vb v20 rs lb k id _ _ _ _ _ _ _ rtt x1 W h h2 b6 (by rw [HId.out]; exact b8) b9 (by unfold endedG; simp [b1, hq])
        go_wp2_with fail
        with_reducible refine (HOn.out w24 HY24.out).mono ?_
        rintro e w25 ⟨rfl, hb25⟩
        have HY25 := Lib.hid (HY24.out.now hb25)
        have HB25 := Lib.hid (HB24.out.trans (hb25.mono hsz24))
        have HW25 := Lib.hid (HW24.out.trans (hb25.mono HW24.out.size))
        have hsz25 : wb.heap.size ≤ w25.heap.size := Nat.le_trans hsz24 hb25.size
        have HX025 := Lib.hid (HX024.out.below hb25 (Nat.lt_of_lt_of_le hxx0 hsz24))
        have HX125 := Lib.hid (HX124.out.below hb25 (Nat.lt_of_lt_of_le hxx1 hsz24))
        have HLg25 := Lib.hid (HLg24.out.below hb25 HLg24.out.lt)
        have HLx25 := Lib.hid (HLx24.out.below hb25 HLx24.out.lt)
        have HLr25 := Lib.hid (HLr24.out.below hb25 HLr24.out.lt)
        have HM25 := Lib.hid (HM24.out.now hb25)
        have HL25 := Lib.hid (HL24.out.now hb25)
        have HR25 := Lib.hid (HR24.out.now hb25)
        have HS25 := Lib.hid (HS24.out.now hb25)
        have HV25 := Lib.hid (HV24.out.now hb25)
        clear hb25 c0 c1 c2 c3 c4 c5 c6 c7 y0 y1 y2 y3 y4 y5 y6 y7 r0 r1 r2 r3 r4 r5 r6 p0 p1
        have c0 : w25.cell? ⟨w2.heap.size, 0, none⟩ = some (.int .i64 id) := HLg25.out.cell 0
        have c1 : w25.cell? ⟨w2.heap.size, 1, none⟩ = some (.int .i64 nod) := HLg25.out.cell 1
        have c2 : w25.cell? ⟨w2.heap.size, 2, none⟩ = some (.int .i64 fuel) := HLg25.out.cell 2
        have c3 : w25.cell? ⟨w2.heap.size, 3, none⟩ = some (.int .i64 st) := HLg25.out.cell 3
        have c4 : w25.cell? ⟨w2.heap.size, 4, none⟩ = some (.int .i64 tg) := HLg25.out.cell 4
        have c5 : w25.cell? ⟨w2.heap.size, 5, none⟩ = some (.int .i64 run) := HLg25.out.cell 5
        have c6 : w25.cell? ⟨w2.heap.size, 6, none⟩ = some (.int .i64 til) := HLg25.out.cell 6
        have c7 : w25.cell? ⟨w2.heap.size, 7, none⟩ = some (.bool win) := HLg25.out.cell 7
        have y0 : w25.cell? ⟨w21.heap.size, 0, none⟩ = some (.int .i64 id) := HLx25.out.cell 0
        have y1 : w25.cell? ⟨w21.heap.size, 1, none⟩ = some (.int .i64 nod) := HLx25.out.cell 1
        have y2 : w25.cell? ⟨w21.heap.size, 2, none⟩ = some (.int .i64 (fuel - 5 * s_)) := HLx25.out.cell 2
        have y3 : w25.cell? ⟨w21.heap.size, 3, none⟩ = some (.int .i64 2) := HLx25.out.cell 3
        have y4 : w25.cell? ⟨w21.heap.size, 4, none⟩ = some (.int .i64 tg) := HLx25.out.cell 4
        have y5 : w25.cell? ⟨w21.heap.size, 5, none⟩ = some (.int .i64 rg) := HLx25.out.cell 5
        have y6 : w25.cell? ⟨w21.heap.size, 6, none⟩ = some (.int .i64 (x0 + s_)) := HLx25.out.cell 6
        have y7 : w25.cell? ⟨w21.heap.size, 7, none⟩ = some (.bool win) := HLx25.out.cell 7
        have r0 : w25.cell? ⟨w23.heap.size, 0, none⟩ = some (.int .i64 rid) := HLr25.out.cell 0
        have r1 : w25.cell? ⟨w23.heap.size, 1, none⟩ = some (.int .i64 rop) := HLr25.out.cell 1
        have r2 : w25.cell? ⟨w23.heap.size, 2, none⟩ = some (.int .i64 rfr) := HLr25.out.cell 2
        have r3 : w25.cell? ⟨w23.heap.size, 3, none⟩ = some (.int .i64 rtt) := HLr25.out.cell 3
        have r4 : w25.cell? ⟨w23.heap.size, 4, none⟩ = some (.int .i64 rgr) := HLr25.out.cell 4
        have r5 : w25.cell? ⟨w23.heap.size, 5, none⟩ = some (.int .i64 rzn) := HLr25.out.cell 5
        have r6 : w25.cell? ⟨w23.heap.size, 6, none⟩ = some (.int .i64 rln) := HLr25.out.cell 6
        have p0 : w25.cell? ⟨w.heap.size + 1, 0, none⟩ = some (.int .i64 x0) := HX125.out.cell 0
        have p1 : w25.cell? ⟨w.heap.size + 1, 1, none⟩ = some (.int .i64 x1) := HX125.out.cell 1
        go_wp2_with
          (first
           | (refine wpList_load_g 32 (.tmp 7) rfl rfl w.heap.size rfl _ _ HX025.out _ Try.underlying32 rfl (by kernel_rfl) ?_)
           | (refine wpList_load_g 51 (.tmp 25) rfl rfl w21.heap.size rfl _ _ HLx25.out _ Try.underlying51 rfl (by kernel_rfl) ?_))
        with_reducible refine (HEn.out w25 HR25.out HY25.out).mono ?_
        rintro e w26 ⟨rfl, hb26⟩
        have HW26 := Lib.hid (HW25.out.trans (hb26.mono HW25.out.size))
        go_wp2_with fail
        try go_ret
        exact ⟨rfl, HW26.out⟩
      | true =>
        obtain ⟨m, a1, ⟨a2, a3⟩, ⟨a4, a5⟩, a6, a7, a8⟩ := HSA.out (HQa.out rfl)
        have HWm := Lib.hid (fun W => HWy.out m W a1)
        obtain ⟨sec, hsec⟩ : ∃ x, (m + 2) / 3 = x := ⟨_, rfl⟩
        rw [hsec] at a8
        have hs1 : 3 * sec ≤ m + 2 := by omega
        have hs2 : m ≤ 3 * sec := by omega
        have HF1 : Hid (∀ (W : World), GrV W W.heap.size va la → Calls Try.prog 28 #[va, .int .i64 gi] W fun e w' => e = .returned (.tuple #[.agg #[.int .i64 id, .int .i64 nod, .int .i64 (fuel - 2 * m), .int .i64 1, .int .i64 tgt, .int .i64 run, .int .i64 (x0 + sec), .bool win], .bool true]) ∧ Below W.heap.size W w') := fun W h => by
          have h1 := lfind_any va _ gi W h
          have h2 := lf_yes a7
          rw [a8] at h2
          rw [h2.1, h2.2] at h1
          exact h1
        have HEa : Hid (∀ (W : World), StrV Rn.cells 7 W W.heap.size vr rs → GrV W W.heap.size va la → Calls Try.prog 29 #[.agg #[vn, vl, vr, vb], va, .agg #[.int .i64 id, .int .i64 nod, .int .i64 (fuel - 2 * m), .int .i64 1, .int .i64 tgt, .int .i64 run, .int .i64 (x0 + sec), .bool win], .int .i64 tgt, .int .i64 x1] W fun e w' => e = .returned (.bool true) ∧ Below W.heap.size W w') := fun W h h2 => ends_any vn vl vr vb va rs la k id _ _ _ _ _ _ _ tgt x1 W h h2 a6 (by rw [HId.out]; exact a7) a8 (by unfold endedG; simp)
        clear hsec a1 a7 a8
        go_wp2_with fail
        with_reducible refine (HF1.out w5 HA5.out).mono ?_
        rintro e w6 ⟨rfl, hb6⟩
        have HA6 := Lib.hid (HA5.out.now hb6)
        have HB6 := Lib.hid (HB5.out.trans (hb6.mono hsz5))
        have HW6 := Lib.hid (HW5.out.trans (hb6.mono HW5.out.size))
        have hsz6 : wb.heap.size ≤ w6.heap.size := Nat.le_trans hsz5 hb6.size
        have HX06 := Lib.hid (HX05.out.below hb6 (Nat.lt_of_lt_of_le hxx0 hsz5))
        have HX16 := Lib.hid (HX15.out.below hb6 (Nat.lt_of_lt_of_le hxx1 hsz5))
        have HLg6 := Lib.hid (HLg5.out.below hb6 HLg5.out.lt)
        have HM6 := Lib.hid (HM5.out.now hb6)
        have HL6 := Lib.hid (HL5.out.now hb6)
        have HR6 := Lib.hid (HR5.out.now hb6)
        have HS6 := Lib.hid (HS5.out.now hb6)
        have HV6 := Lib.hid (HV5.out.now hb6)
        clear hb6
        go_upto_region 9 with (fail)
        have HBw7 := (Blk.new w6 51 #[.int .i64 id, .int .i64 nod, .int .i64 (fuel - 2 * m), .int .i64 1, .int .i64 tgt, .int .i64 run, .int .i64 (x0 + sec), .bool win])
        have HLw7 := (below_new w6 (.cells #[.int .i64 id, .int .i64 nod, .int .i64 (fuel - 2 * m), .int .i64 1, .int .i64 tgt, .int .i64 run, .int .i64 (x0 + sec), .bool win] 51))
        have hsw7 : (w6.alloc (.cells #[.int .i64 id, .int .i64 nod, .int .i64 (fuel - 2 * m), .int .i64 1, .int .i64 tgt, .int .i64 run, .int .i64 (x0 + sec), .bool win] 51)).heap.size = w6.heap.size + 1 := by simp
        generalize w6.alloc (.cells #[.int .i64 id, .int .i64 nod, .int .i64 (fuel - 2 * m), .int .i64 1, .int .i64 tgt, .int .i64 run, .int .i64 (x0 + sec), .bool win] 51) = w7 at HBw7 HLw7 hsw7 ⊢
        replace HBw7 := Lib.hid HBw7
        replace HLw7 := Lib.hid HLw7
        have hlw7 : w6.heap.size < w7.heap.size := by omega
        replace hsw7 := Lib.hid hsw7
        have hb7 := HLw7.out
        have HLx7 := HBw7
        clear HBw7 HLw7 hsw7 hlw7
        have HA7 := Lib.hid (HA6.out.now hb7)
        have HB7 := Lib.hid (HB6.out.trans (hb7.mono hsz6))
        have HW7 := Lib.hid (HW6.out.trans (hb7.mono HW6.out.size))
        have hsz7 : wb.heap.size ≤ w7.heap.size := Nat.le_trans hsz6 hb7.size
        have HX07 := Lib.hid (HX06.out.below hb7 (Nat.lt_of_lt_of_le hxx0 hsz6))
        have HX17 := Lib.hid (HX16.out.below hb7 (Nat.lt_of_lt_of_le hxx1 hsz6))
        have HLg7 := Lib.hid (HLg6.out.below hb7 HLg6.out.lt)
        have HM7 := Lib.hid (HM6.out.now hb7)
        have HL7 := Lib.hid (HL6.out.now hb7)
        have HR7 := Lib.hid (HR6.out.now hb7)
        have HS7 := Lib.hid (HS6.out.now hb7)
        have HV7 := Lib.hid (HV6.out.now hb7)
        clear hb7
        have c0 : w7.cell? ⟨w2.heap.size, 0, none⟩ = some (.int .i64 id) := HLg7.out.cell 0
        have c1 : w7.cell? ⟨w2.heap.size, 1, none⟩ = some (.int .i64 nod) := HLg7.out.cell 1
        have c2 : w7.cell? ⟨w2.heap.size, 2, none⟩ = some (.int .i64 fuel) := HLg7.out.cell 2
        have c3 : w7.cell? ⟨w2.heap.size, 3, none⟩ = some (.int .i64 st) := HLg7.out.cell 3
        have c4 : w7.cell? ⟨w2.heap.size, 4, none⟩ = some (.int .i64 tg) := HLg7.out.cell 4
        have c5 : w7.cell? ⟨w2.heap.size, 5, none⟩ = some (.int .i64 run) := HLg7.out.cell 5
        have c6 : w7.cell? ⟨w2.heap.size, 6, none⟩ = some (.int .i64 til) := HLg7.out.cell 6
        have c7 : w7.cell? ⟨w2.heap.size, 7, none⟩ = some (.bool win) := HLg7.out.cell 7
        go_wp2_with
          (first
           | (refine wpList_load_g 32 (.tmp 7) rfl rfl w.heap.size rfl _ _ HX07.out _ Try.underlying32 rfl (by kernel_rfl) ?_))
        with_reducible refine (HWm.out w7 HM7.out HL7.out HR7.out).mono ?_
        rintro e w8 ⟨rfl, hb8⟩
        have HA8 := Lib.hid (HA7.out.now hb8)
        have HB8 := Lib.hid (HB7.out.trans (hb8.mono hsz7))
        have HW8 := Lib.hid (HW7.out.trans (hb8.mono HW7.out.size))
        have hsz8 : wb.heap.size ≤ w8.heap.size := Nat.le_trans hsz7 hb8.size
        have HX08 := Lib.hid (HX07.out.below hb8 (Nat.lt_of_lt_of_le hxx0 hsz7))
        have HX18 := Lib.hid (HX17.out.below hb8 (Nat.lt_of_lt_of_le hxx1 hsz7))
        have HLg8 := Lib.hid (HLg7.out.below hb8 HLg7.out.lt)
        have HLx8 := Lib.hid (HLx7.out.below hb8 HLx7.out.lt)
        have HM8 := Lib.hid (HM7.out.now hb8)
        have HL8 := Lib.hid (HL7.out.now hb8)
        have HR8 := Lib.hid (HR7.out.now hb8)
        have HS8 := Lib.hid (HS7.out.now hb8)
        have HV8 := Lib.hid (HV7.out.now hb8)
        clear hb8 c0 c1 c2 c3 c4 c5 c6 c7
        have c0 : w8.cell? ⟨w2.heap.size, 0, none⟩ = some (.int .i64 id) := HLg8.out.cell 0
        have c1 : w8.cell? ⟨w2.heap.size, 1, none⟩ = some (.int .i64 nod) := HLg8.out.cell 1
        have c2 : w8.cell? ⟨w2.heap.size, 2, none⟩ = some (.int .i64 fuel) := HLg8.out.cell 2
        have c3 : w8.cell? ⟨w2.heap.size, 3, none⟩ = some (.int .i64 st) := HLg8.out.cell 3
        have c4 : w8.cell? ⟨w2.heap.size, 4, none⟩ = some (.int .i64 tg) := HLg8.out.cell 4
        have c5 : w8.cell? ⟨w2.heap.size, 5, none⟩ = some (.int .i64 run) := HLg8.out.cell 5
        have c6 : w8.cell? ⟨w2.heap.size, 6, none⟩ = some (.int .i64 til) := HLg8.out.cell 6
        have c7 : w8.cell? ⟨w2.heap.size, 7, none⟩ = some (.bool win) := HLg8.out.cell 7
        have y0 : w8.cell? ⟨w6.heap.size, 0, none⟩ = some (.int .i64 id) := HLx8.out.cell 0
        have y1 : w8.cell? ⟨w6.heap.size, 1, none⟩ = some (.int .i64 nod) := HLx8.out.cell 1
        have y2 : w8.cell? ⟨w6.heap.size, 2, none⟩ = some (.int .i64 (fuel - 2 * m)) := HLx8.out.cell 2
        have y3 : w8.cell? ⟨w6.heap.size, 3, none⟩ = some (.int .i64 1) := HLx8.out.cell 3
        have y4 : w8.cell? ⟨w6.heap.size, 4, none⟩ = some (.int .i64 tgt) := HLx8.out.cell 4
        have y5 : w8.cell? ⟨w6.heap.size, 5, none⟩ = some (.int .i64 run) := HLx8.out.cell 5
        have y6 : w8.cell? ⟨w6.heap.size, 6, none⟩ = some (.int .i64 (x0 + sec)) := HLx8.out.cell 6
        have y7 : w8.cell? ⟨w6.heap.size, 7, none⟩ = some (.bool win) := HLx8.out.cell 7
        have p0 : w8.cell? ⟨w.heap.size + 1, 0, none⟩ = some (.int .i64 x0) := HX18.out.cell 0
        have p1 : w8.cell? ⟨w.heap.size + 1, 1, none⟩ = some (.int .i64 x1) := HX18.out.cell 1
        have hig := HIg.out
        have e1 : ((fuel - 2 * m) != (fuel - 2 * m)) = false := by simp
        have e2 : x0 + sec - x0 = sec := by omega
        have e3 : decide (3 * sec < m) = false := decide_eq_false (by omega)
        have e4 : decide (3 * sec > m + 2) = false := decide_eq_false (by omega)
        go_wp2_with
          (first
           | (refine wpList_load_g 32 (.tmp 7) rfl rfl w.heap.size rfl _ _ HX08.out _ Try.underlying32 rfl (by kernel_rfl) ?_)
           | (refine wpList_load_g 51 (.tmp 19) rfl rfl w6.heap.size rfl _ _ HLx8.out _ Try.underlying51 rfl (by kernel_rfl) ?_))
        with_reducible refine (HEa.out w8 HR8.out HA8.out).mono ?_
        rintro e w9 ⟨rfl, hb9⟩
        have HB9 := Lib.hid (HB8.out.trans (hb9.mono hsz8))
        have HW9 := Lib.hid (HW8.out.trans (hb9.mono HW8.out.size))
        have hsz9 : wb.heap.size ≤ w9.heap.size := Nat.le_trans hsz8 hb9.size
        have HX09 := Lib.hid (HX08.out.below hb9 (Nat.lt_of_lt_of_le hxx0 hsz8))
        have HX19 := Lib.hid (HX18.out.below hb9 (Nat.lt_of_lt_of_le hxx1 hsz8))
        have HLg9 := Lib.hid (HLg8.out.below hb9 HLg8.out.lt)
        have HLx9 := Lib.hid (HLx8.out.below hb9 HLx8.out.lt)
        have HM9 := Lib.hid (HM8.out.now hb9)
        have HL9 := Lib.hid (HL8.out.now hb9)
        have HR9 := Lib.hid (HR8.out.now hb9)
        have HS9 := Lib.hid (HS8.out.now hb9)
        have HV9 := Lib.hid (HV8.out.now hb9)
        clear hb9 c0 c1 c2 c3 c4 c5 c6 c7 y0 y1 y2 y3 y4 y5 y6 y7 p0 p1 e1 e2 e3 e4 hig HWm HF1 HEa
        have p0 : w9.cell? ⟨w.heap.size + 1, 0, none⟩ = some (.int .i64 x0) := HX19.out.cell 0
        have p1 : w9.cell? ⟨w.heap.size + 1, 1, none⟩ = some (.int .i64 x1) := HX19.out.cell 1
        go_wp2_with
          (first
           | (refine wpList_load_g 32 (.tmp 7) rfl rfl w.heap.size rfl _ _ HX09.out _ Try.underlying32 rfl (by kernel_rfl) ?_))
        with_reducible refine (HC2.out _ HM9.out HL9.out HR9.out HV9.out).mono ?_
        rintro e w20 ⟨v20, rfl, hva, hb20⟩
        have HB20 := Lib.hid (HB9.out.trans (hb20.mono hsz9))
        have HW20 := Lib.hid (HW9.out.trans (hb20.mono HW9.out.size))
        have hsz20 : wb.heap.size ≤ w20.heap.size := Nat.le_trans hsz9 hb20.size
        have HX020 := Lib.hid (HX09.out.below hb20 (Nat.lt_of_lt_of_le hxx0 hsz9))
        have HX120 := Lib.hid (HX19.out.below hb20 (Nat.lt_of_lt_of_le hxx1 hsz9))
        have HLg20 := Lib.hid (HLg9.out.below hb20 HLg9.out.lt)
        have HM20 := Lib.hid (HM9.out.now hb20)
        have HL20 := Lib.hid (HL9.out.now hb20)
        have HR20 := Lib.hid (HR9.out.now hb20)
        have HS20 := Lib.hid (HS9.out.now hb20)
        have HV20 := Lib.hid (HV9.out.now hb20)
        have HY20 := Lib.hid hva
        clear hb20 p0 p1 HC2
        by_cases zc : cb = 0
        rotate_left
        · have d0 : (cb != 0) = true := bne_iff_ne.2 zc
          rw [HNB.out zc] at hva
          obtain ⟨A3, n3, c3, rfl, HN3, _, _, _⟩ := hva.nam
          obtain rfl : 0 = n3 := HN3.out
          go_wp2_with fail
          try go_ret
          exact ⟨rfl, HW20.out⟩
        obtain ⟨b1, ⟨b2, b3⟩, ⟨b4, b5⟩, b6, b7, b8, b9⟩ := HSB.out zc
        subst zc
        clear hva
        have HF2 : Hid (∀ (W : World), GrV W W.heap.size v20 lb → Calls Try.prog 28 #[v20, .int .i64 gi] W fun e w' => e = .returned (.tuple #[.agg #[.int .i64 id, .int .i64 nod, .int .i64 (fuel - 5 * s_), .int .i64 2, .int .i64 tg, .int .i64 rg, .int .i64 (x0 + s_), .bool win], .bool true]) ∧ Below W.heap.size W w') := fun W h => by
          have h1 := lfind_any v20 _ gi W h
          have h2 := lf_yes b8
          rw [b9] at h2
          rw [h2.1, h2.2] at h1
          exact h1
        go_wp2_with fail
        with_reducible refine (HF2.out w20 HY20.out).mono ?_
        rintro e w21 ⟨rfl, hb21⟩
        have HY21 := Lib.hid (HY20.out.now hb21)
        have HB21 := Lib.hid (HB20.out.trans (hb21.mono hsz20))
        have HW21 := Lib.hid (HW20.out.trans (hb21.mono HW20.out.size))
        have hsz21 : wb.heap.size ≤ w21.heap.size := Nat.le_trans hsz20 hb21.size
        have HX021 := Lib.hid (HX020.out.below hb21 (Nat.lt_of_lt_of_le hxx0 hsz20))
        have HX121 := Lib.hid (HX120.out.below hb21 (Nat.lt_of_lt_of_le hxx1 hsz20))
        have HLg21 := Lib.hid (HLg20.out.below hb21 HLg20.out.lt)
        have HM21 := Lib.hid (HM20.out.now hb21)
        have HL21 := Lib.hid (HL20.out.now hb21)
        have HR21 := Lib.hid (HR20.out.now hb21)
        have HS21 := Lib.hid (HS20.out.now hb21)
        have HV21 := Lib.hid (HV20.out.now hb21)
        clear hb21
        go_upto_region 16 with (fail)
        have HBw22 := (Blk.new w21 51 #[.int .i64 id, .int .i64 nod, .int .i64 (fuel - 5 * s_), .int .i64 2, .int .i64 tg, .int .i64 rg, .int .i64 (x0 + s_), .bool win])
        have HLw22 := (below_new w21 (.cells #[.int .i64 id, .int .i64 nod, .int .i64 (fuel - 5 * s_), .int .i64 2, .int .i64 tg, .int .i64 rg, .int .i64 (x0 + s_), .bool win] 51))
        have hsw22 : (w21.alloc (.cells #[.int .i64 id, .int .i64 nod, .int .i64 (fuel - 5 * s_), .int .i64 2, .int .i64 tg, .int .i64 rg, .int .i64 (x0 + s_), .bool win] 51)).heap.size = w21.heap.size + 1 := by simp
        generalize w21.alloc (.cells #[.int .i64 id, .int .i64 nod, .int .i64 (fuel - 5 * s_), .int .i64 2, .int .i64 tg, .int .i64 rg, .int .i64 (x0 + s_), .bool win] 51) = w22 at HBw22 HLw22 hsw22 ⊢
        replace HBw22 := Lib.hid HBw22
        replace HLw22 := Lib.hid HLw22
        have hlw22 : w21.heap.size < w22.heap.size := by omega
        replace hsw22 := Lib.hid hsw22
        have hb22 := HLw22.out
        have HLx22 := HBw22
        clear HBw22 HLw22 hsw22 hlw22
        have HY22 := Lib.hid (HY21.out.now hb22)
        have HB22 := Lib.hid (HB21.out.trans (hb22.mono hsz21))
        have HW22 := Lib.hid (HW21.out.trans (hb22.mono HW21.out.size))
        have hsz22 : wb.heap.size ≤ w22.heap.size := Nat.le_trans hsz21 hb22.size
        have HX022 := Lib.hid (HX021.out.below hb22 (Nat.lt_of_lt_of_le hxx0 hsz21))
        have HX122 := Lib.hid (HX121.out.below hb22 (Nat.lt_of_lt_of_le hxx1 hsz21))
        have HLg22 := Lib.hid (HLg21.out.below hb22 HLg21.out.lt)
        have HM22 := Lib.hid (HM21.out.now hb22)
        have HL22 := Lib.hid (HL21.out.now hb22)
        have HR22 := Lib.hid (HR21.out.now hb22)
        have HS22 := Lib.hid (HS21.out.now hb22)
        have HV22 := Lib.hid (HV21.out.now hb22)
        clear hb22
        go_wp2_with
          (first
           | (refine wpList_load_g 32 (.tmp 7) rfl rfl w.heap.size rfl _ _ HX022.out _ Try.underlying32 rfl (by kernel_rfl) ?_))
        with_reducible refine (rrun_any _ _ _ _ rs rg w22 HR22.out).mono ?_
        rintro e w23 ⟨rfl, hb23⟩
        have HY23 := Lib.hid (HY22.out.now hb23)
        have HB23 := Lib.hid (HB22.out.trans (hb23.mono hsz22))
        have HW23 := Lib.hid (HW22.out.trans (hb23.mono HW22.out.size))
        have hsz23 : wb.heap.size ≤ w23.heap.size := Nat.le_trans hsz22 hb23.size
        have HX023 := Lib.hid (HX022.out.below hb23 (Nat.lt_of_lt_of_le hxx0 hsz22))
        have HX123 := Lib.hid (HX122.out.below hb23 (Nat.lt_of_lt_of_le hxx1 hsz22))
        have HLg23 := Lib.hid (HLg22.out.below hb23 HLg22.out.lt)
        have HLx23 := Lib.hid (HLx22.out.below hb23 HLx22.out.lt)
        have HM23 := Lib.hid (HM22.out.now hb23)
        have HL23 := Lib.hid (HL22.out.now hb23)
        have HR23 := Lib.hid (HR22.out.now hb23)
        have HS23 := Lib.hid (HS22.out.now hb23)
        have HV23 := Lib.hid (HV22.out.now hb23)
        clear hb23
        rw [b1]
        obtain ⟨q, hq⟩ : ∃ q, rnOf rs rg = q := ⟨_, rfl⟩
        rw [hq]
        obtain ⟨rid, rop, rfr, rtt, rgr, rzn, rln⟩ := q
        go_upto_region 17 with (fail)
        have HBw24 := (Blk.new w23 56 #[.int .i64 rid, .int .i64 rop, .int .i64 rfr, .int .i64 rtt, .int .i64 rgr, .int .i64 rzn, .int .i64 rln])
        have HLw24 := (below_new w23 (.cells #[.int .i64 rid, .int .i64 rop, .int .i64 rfr, .int .i64 rtt, .int .i64 rgr, .int .i64 rzn, .int .i64 rln] 56))
        have hsw24 : (w23.alloc (.cells #[.int .i64 rid, .int .i64 rop, .int .i64 rfr, .int .i64 rtt, .int .i64 rgr, .int .i64 rzn, .int .i64 rln] 56)).heap.size = w23.heap.size + 1 := by simp
        generalize w23.alloc (.cells #[.int .i64 rid, .int .i64 rop, .int .i64 rfr, .int .i64 rtt, .int .i64 rgr, .int .i64 rzn, .int .i64 rln] 56) = w24 at HBw24 HLw24 hsw24 ⊢
        replace HBw24 := Lib.hid HBw24
        replace HLw24 := Lib.hid HLw24
        have hlw24 : w23.heap.size < w24.heap.size := by omega
        replace hsw24 := Lib.hid hsw24
        have hb24 := HLw24.out
        have HLr24 := HBw24
        clear HBw24 HLw24 hsw24 hlw24
        have HY24 := Lib.hid (HY23.out.now hb24)
        have HB24 := Lib.hid (HB23.out.trans (hb24.mono hsz23))
        have HW24 := Lib.hid (HW23.out.trans (hb24.mono HW23.out.size))
        have hsz24 : wb.heap.size ≤ w24.heap.size := Nat.le_trans hsz23 hb24.size
        have HX024 := Lib.hid (HX023.out.below hb24 (Nat.lt_of_lt_of_le hxx0 hsz23))
        have HX124 := Lib.hid (HX123.out.below hb24 (Nat.lt_of_lt_of_le hxx1 hsz23))
        have HLg24 := Lib.hid (HLg23.out.below hb24 HLg23.out.lt)
        have HLx24 := Lib.hid (HLx23.out.below hb24 HLx23.out.lt)
        have HM24 := Lib.hid (HM23.out.now hb24)
        have HL24 := Lib.hid (HL23.out.now hb24)
        have HR24 := Lib.hid (HR23.out.now hb24)
        have HS24 := Lib.hid (HS23.out.now hb24)
        have HV24 := Lib.hid (HV23.out.now hb24)
        clear hb24
        have c0 : w24.cell? ⟨w2.heap.size, 0, none⟩ = some (.int .i64 id) := HLg24.out.cell 0
        have c1 : w24.cell? ⟨w2.heap.size, 1, none⟩ = some (.int .i64 nod) := HLg24.out.cell 1
        have c2 : w24.cell? ⟨w2.heap.size, 2, none⟩ = some (.int .i64 fuel) := HLg24.out.cell 2
        have c3 : w24.cell? ⟨w2.heap.size, 3, none⟩ = some (.int .i64 st) := HLg24.out.cell 3
        have c4 : w24.cell? ⟨w2.heap.size, 4, none⟩ = some (.int .i64 tg) := HLg24.out.cell 4
        have c5 : w24.cell? ⟨w2.heap.size, 5, none⟩ = some (.int .i64 run) := HLg24.out.cell 5
        have c6 : w24.cell? ⟨w2.heap.size, 6, none⟩ = some (.int .i64 til) := HLg24.out.cell 6
        have c7 : w24.cell? ⟨w2.heap.size, 7, none⟩ = some (.bool win) := HLg24.out.cell 7
        have y0 : w24.cell? ⟨w21.heap.size, 0, none⟩ = some (.int .i64 id) := HLx24.out.cell 0
        have y1 : w24.cell? ⟨w21.heap.size, 1, none⟩ = some (.int .i64 nod) := HLx24.out.cell 1
        have y2 : w24.cell? ⟨w21.heap.size, 2, none⟩ = some (.int .i64 (fuel - 5 * s_)) := HLx24.out.cell 2
        have y3 : w24.cell? ⟨w21.heap.size, 3, none⟩ = some (.int .i64 2) := HLx24.out.cell 3
        have y4 : w24.cell? ⟨w21.heap.size, 4, none⟩ = some (.int .i64 tg) := HLx24.out.cell 4
        have y5 : w24.cell? ⟨w21.heap.size, 5, none⟩ = some (.int .i64 rg) := HLx24.out.cell 5
        have y6 : w24.cell? ⟨w21.heap.size, 6, none⟩ = some (.int .i64 (x0 + s_)) := HLx24.out.cell 6
        have y7 : w24.cell? ⟨w21.heap.size, 7, none⟩ = some (.bool win) := HLx24.out.cell 7
        have r0 : w24.cell? ⟨w23.heap.size, 0, none⟩ = some (.int .i64 rid) := HLr24.out.cell 0
        have r1 : w24.cell? ⟨w23.heap.size, 1, none⟩ = some (.int .i64 rop) := HLr24.out.cell 1
        have r2 : w24.cell? ⟨w23.heap.size, 2, none⟩ = some (.int .i64 rfr) := HLr24.out.cell 2
        have r3 : w24.cell? ⟨w23.heap.size, 3, none⟩ = some (.int .i64 rtt) := HLr24.out.cell 3
        have r4 : w24.cell? ⟨w23.heap.size, 4, none⟩ = some (.int .i64 rgr) := HLr24.out.cell 4
        have r5 : w24.cell? ⟨w23.heap.size, 5, none⟩ = some (.int .i64 rzn) := HLr24.out.cell 5
        have r6 : w24.cell? ⟨w23.heap.size, 6, none⟩ = some (.int .i64 rln) := HLr24.out.cell 6
        have p0 : w24.cell? ⟨w.heap.size + 1, 0, none⟩ = some (.int .i64 x0) := HX124.out.cell 0
        have p1 : w24.cell? ⟨w.heap.size + 1, 1, none⟩ = some (.int .i64 x1) := HX124.out.cell 1
        have e5 : (rg == rg) = true := by simp
        have hig := HIg.out
        have hew : ((fuel - 5 * s_) == (fuel - 5 * s_)) = true := by simp
        have het : ((x0 + s_) == (x0 + s_)) = true := by simp
        have HOn : Hid (∀ (W : World), GrV W W.heap.size v20 lb → Calls Try.prog 26 #[v20, .int .i64 rg] W fun e w' => e = .returned (.bool true) ∧ Below W.heap.size W w') := fun W h => by
          have h1 := gon_any v20 lb rg W h
          rwa [b7] at h1
        have HEn : Hid (∀ (W : World), StrV Rn.cells 7 W W.heap.size vr rs → GrV W W.heap.size v20 lb → Calls Try.prog 29 #[.agg #[vn, vl, vr, vb], v20, .agg #[.int .i64 id, .int .i64 nod, .int .i64 (fuel - 5 * s_), .int .i64 2, .int .i64 tg, .int .i64 rg, .int .i64 (x0 + s_), .bool win], .int .i64 rtt, .int .i64 x1] W fun e w' => e = .returned (.bool true) ∧ Below W.heap.size W w') := fun W h h2 => ends_any vn vl vr vb v20 rs lb k id _ _ _ _ _ _ _ rtt x1 W h h2 b6 (by rw [HId.out]; exact b8) b9 (by unfold endedG; simp [b1, hq])
        go_wp2_with fail
        with_reducible refine (HOn.out w24 HY24.out).mono ?_
        rintro e w25 ⟨rfl, hb25⟩
        have HY25 := Lib.hid (HY24.out.now hb25)
        have HB25 := Lib.hid (HB24.out.trans (hb25.mono hsz24))
        have HW25 := Lib.hid (HW24.out.trans (hb25.mono HW24.out.size))
        have hsz25 : wb.heap.size ≤ w25.heap.size := Nat.le_trans hsz24 hb25.size
        have HX025 := Lib.hid (HX024.out.below hb25 (Nat.lt_of_lt_of_le hxx0 hsz24))
        have HX125 := Lib.hid (HX124.out.below hb25 (Nat.lt_of_lt_of_le hxx1 hsz24))
        have HLg25 := Lib.hid (HLg24.out.below hb25 HLg24.out.lt)
        have HLx25 := Lib.hid (HLx24.out.below hb25 HLx24.out.lt)
        have HLr25 := Lib.hid (HLr24.out.below hb25 HLr24.out.lt)
        have HM25 := Lib.hid (HM24.out.now hb25)
        have HL25 := Lib.hid (HL24.out.now hb25)
        have HR25 := Lib.hid (HR24.out.now hb25)
        have HS25 := Lib.hid (HS24.out.now hb25)
        have HV25 := Lib.hid (HV24.out.now hb25)
        clear hb25 c0 c1 c2 c3 c4 c5 c6 c7 y0 y1 y2 y3 y4 y5 y6 y7 r0 r1 r2 r3 r4 r5 r6 p0 p1
        have c0 : w25.cell? ⟨w2.heap.size, 0, none⟩ = some (.int .i64 id) := HLg25.out.cell 0
        have c1 : w25.cell? ⟨w2.heap.size, 1, none⟩ = some (.int .i64 nod) := HLg25.out.cell 1
        have c2 : w25.cell? ⟨w2.heap.size, 2, none⟩ = some (.int .i64 fuel) := HLg25.out.cell 2
        have c3 : w25.cell? ⟨w2.heap.size, 3, none⟩ = some (.int .i64 st) := HLg25.out.cell 3
        have c4 : w25.cell? ⟨w2.heap.size, 4, none⟩ = some (.int .i64 tg) := HLg25.out.cell 4
        have c5 : w25.cell? ⟨w2.heap.size, 5, none⟩ = some (.int .i64 run) := HLg25.out.cell 5
        have c6 : w25.cell? ⟨w2.heap.size, 6, none⟩ = some (.int .i64 til) := HLg25.out.cell 6
        have c7 : w25.cell? ⟨w2.heap.size, 7, none⟩ = some (.bool win) := HLg25.out.cell 7
        have y0 : w25.cell? ⟨w21.heap.size, 0, none⟩ = some (.int .i64 id) := HLx25.out.cell 0
        have y1 : w25.cell? ⟨w21.heap.size, 1, none⟩ = some (.int .i64 nod) := HLx25.out.cell 1
        have y2 : w25.cell? ⟨w21.heap.size, 2, none⟩ = some (.int .i64 (fuel - 5 * s_)) := HLx25.out.cell 2
        have y3 : w25.cell? ⟨w21.heap.size, 3, none⟩ = some (.int .i64 2) := HLx25.out.cell 3
        have y4 : w25.cell? ⟨w21.heap.size, 4, none⟩ = some (.int .i64 tg) := HLx25.out.cell 4
        have y5 : w25.cell? ⟨w21.heap.size, 5, none⟩ = some (.int .i64 rg) := HLx25.out.cell 5
        have y6 : w25.cell? ⟨w21.heap.size, 6, none⟩ = some (.int .i64 (x0 + s_)) := HLx25.out.cell 6
        have y7 : w25.cell? ⟨w21.heap.size, 7, none⟩ = some (.bool win) := HLx25.out.cell 7
        have r0 : w25.cell? ⟨w23.heap.size, 0, none⟩ = some (.int .i64 rid) := HLr25.out.cell 0
        have r1 : w25.cell? ⟨w23.heap.size, 1, none⟩ = some (.int .i64 rop) := HLr25.out.cell 1
        have r2 : w25.cell? ⟨w23.heap.size, 2, none⟩ = some (.int .i64 rfr) := HLr25.out.cell 2
        have r3 : w25.cell? ⟨w23.heap.size, 3, none⟩ = some (.int .i64 rtt) := HLr25.out.cell 3
        have r4 : w25.cell? ⟨w23.heap.size, 4, none⟩ = some (.int .i64 rgr) := HLr25.out.cell 4
        have r5 : w25.cell? ⟨w23.heap.size, 5, none⟩ = some (.int .i64 rzn) := HLr25.out.cell 5
        have r6 : w25.cell? ⟨w23.heap.size, 6, none⟩ = some (.int .i64 rln) := HLr25.out.cell 6
        have p0 : w25.cell? ⟨w.heap.size + 1, 0, none⟩ = some (.int .i64 x0) := HX125.out.cell 0
        have p1 : w25.cell? ⟨w.heap.size + 1, 1, none⟩ = some (.int .i64 x1) := HX125.out.cell 1
        go_wp2_with
          (first
           | (refine wpList_load_g 32 (.tmp 7) rfl rfl w.heap.size rfl _ _ HX025.out _ Try.underlying32 rfl (by kernel_rfl) ?_)
           | (refine wpList_load_g 51 (.tmp 25) rfl rfl w21.heap.size rfl _ _ HLx25.out _ Try.underlying51 rfl (by kernel_rfl) ?_))
        with_reducible refine (HEn.out w25 HR25.out HY25.out).mono ?_
        rintro e w26 ⟨rfl, hb26⟩
        have HW26 := Lib.hid (HW25.out.trans (hb26.mono HW25.out.size))
        go_wp2_with fail
        try go_ret
        exact ⟨rfl, HW26.out⟩


theorem own_groomerTimes : ownKnob Try.prog.godebug = none := by kernel_rfl
theorem laidOut_groomerTimes : laidOutB Try.prog = true := by kernel_rfl
set_option maxRecDepth 100000 in
theorem groomerTimes_lifted (os : Os) (started : os.Started) (H : Type) (enc : TypeId × Value → H) :
    ReturnsInHanded {} Try.checked os 8 .any (Rows.groomerTimesSpec.pre6 enc Try.prog Try.f8 Rows.groomerTimesRow.domain false) (Rows.groomerTimesSpec.post enc Try.prog Try.f8 false true false false) := by
  refine returnsInHanded_of_change (C := Try.checked) own_groomerTimes started (by kernel_rfl) Try.func8
    (ChangeSpec.witness6 (enc := enc) (C := Try.checked) false ⟨#[], #[.agg #[.slice none 0 0, .slice none 0 0, .slice none 0 0, .slice none 0 0], .slice none 0 0, .int .i64 0, .int .i64 0, .int .i64 0, .int .i64 0, .agg #[.int .i64 0, .int .i64 0]], []⟩ 8 (by kernel_rfl) (by kernel_rfl) (by kernel_rfl) (by kernel_rfl)) ?_
  intro W base args ds gs before hval0 hW hcnd _
  have hval : ∀ (j : Nat) t v, Try.f8.params[j]? = some t → args[j]? = some v → Value.okWide Try.prog W .any base t v := hval0
  have hW' := hW
  obtain ⟨p, q, hA0, hV, rfl, hfz, hnd⟩ := hW
  have hA : DataW.TrodAll enc Try.prog W 0 (fun _ => true) true Try.f8.params.toList args.toList ds p := hA0
  rw [Try.params8] at hA hval
  obtain ⟨v0, vs0, d0, ds0, p0, q0, hargs, rfl, rfl, h0, r0⟩ := trodAll_cons hA
  obtain ⟨v1, vs1, d1, ds1, p1, q1, rfl, rfl, rfl, h1, r1⟩ := trodAll_cons r0
  obtain ⟨v2, vs2, d2, ds2, p2, q2, rfl, rfl, rfl, h2, r2⟩ := trodAll_cons r1
  obtain ⟨v3, vs3, d3, ds3, p3, q3, rfl, rfl, rfl, h3, r3⟩ := trodAll_cons r2
  obtain ⟨v4, vs4, d4, ds4, p4, q4, rfl, rfl, rfl, h4, r4⟩ := trodAll_cons r3
  obtain ⟨v5, vs5, d5, ds5, p5, q5, rfl, rfl, rfl, h5, r5⟩ := trodAll_cons r4
  obtain ⟨v6, vs6, d6, ds6, p6, q6, rfl, rfl, rfl, h6, r6⟩ := trodAll_cons r5
  obtain ⟨rfl, rfl, rfl⟩ := trodAll_nil r6
  obtain rfl : args = #[v0, v1, v2, v3, v4, v5, v6] := by cases args; simp_all
  obtain ⟨rfl, rfl⟩ := trodVars_none hV
  obtain ⟨vn, vl, vr, vb, nd, lf, rs, bs, rfl, hnd, hlf, hrs, hbs⟩ := open_map (hval 0 32 v0 rfl rfl) h0
  obtain ⟨l, hl⟩ := open_grs (hval 1 22 v1 rfl rfl) h1
  obtain ⟨gi, rfl, _, _⟩ := open_i64 Try.underlying3 (hval 2 3 v2 rfl rfl) h2
  obtain ⟨tgt, rfl, _, _⟩ := open_i64 Try.underlying3 (hval 3 3 v3 rfl rfl) h3
  obtain ⟨rg, rfl, _, _⟩ := open_i64 Try.underlying3 (hval 4 3 v4 rfl rfl) h4
  obtain ⟨s_, rfl, _, _⟩ := open_i64 Try.underlying3 (hval 5 3 v5 rfl rfl) h5
  obtain ⟨x0, x1, rfl, _, _⟩ := open_arr2 Try.underlying49 Try.underlying3 (by kernel_rfl) (by kernel_rfl) (hval 6 49 v6 rfl rfl) h6
  refine (groomerTimes_any W vn vl vr vb nd lf rs bs hnd hlf hrs hbs v1 l hl gi tgt rg s_ x0 x1).mono fun e W' ⟨he, hb⟩ => ?_
  subst he
  exact ⟨_, rfl, law_post laidOut_groomerTimes (by kernel_rfl) rfl rfl Try.underlying4 hW' rfl hb⟩

theorem groomerTimes_holds : Rows.GroomerTimesSaid :=
  OpenClaim.holds_of_wide 8 Try.f8 rfl rfl rfl rfl rfl rfl rfl ⟨rfl, rfl, rfl, rfl, rfl⟩ rfl rfl rfl rfl rfl (by kernel_rfl) Try.func8 (by kernel_rfl)
    (of_decide_eq_true (by kernel_rfl)) (by unfold Func.isWrapper; rw [if_neg (by decide +kernel)]; exact ⟨rfl, rfl⟩)
    (fun os started H enc _ => groomerTimes_lifted os started H enc)
#print axioms groomerTimes_holds

end Go.Proofs.Ytegijfmdjaehjaa
