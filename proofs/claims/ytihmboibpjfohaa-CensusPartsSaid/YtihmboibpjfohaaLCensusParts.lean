/-
  CensusParts answers true for every input. Its conditions: none.
-/
import Derived.Test.YtihmboibpjfohaaRows
import Derived.Test.YtihmboibpjfohaaCenR
import Derived.Test.YtihmboibpjfohaaCenPn
namespace Go.Proofs.Ytihmboibpjfohaa
open Go.ChangeShapes Go.WideShapes Go.ChangeAt Go.RowKit

theorem any_snoc (p : Cr → Bool) {l : List Cr} {k : Nat} (h : k < l.length) : (l.take (k + 1)).any p = ((l.take k).any p || p (l.getD k cr0)) := by
  rw [cr_at h]
  simp

set_option maxRecDepth 100000 in
set_option maxHeartbeats 4000000 in
theorem censusParts_any (w : World) (v : Value) (l : List Cr) (hv : StrV Cr.cells 4 w w.heap.size v l) (a : Int) (ha : -9223372036854775808 ≤ a ∧ a ≤ 9223372036854775807) (b : Int) (hb : -9223372036854775808 ≤ b ∧ b ≤ 9223372036854775807) :
    Calls Try.prog 7 #[v, .int .i64 a, .int .i64 b] w fun e w' => e = .returned (.bool true) ∧ Below w.heap.size w w' := by
  obtain ⟨A, n, c, rfl, HN, hc1, hc2, hr⟩ := hv.nam
  have HV := Lib.hid hv
  have HRd := Lib.hid hr
  have hm := Int.ofNat_le.2 (show n ≤ maxLen by omega)
  clear hv hr
  have hmk0 : ∀ W : World, (Instr.buildSlice 22 0 #[]).run Try.prog W = .ok (.slice (some ⟨W.heap.size, 0, none⟩) 0 0) (W.alloc (.cells #[] 24)) := fun W => run_lit0 (P := Try.prog) W 22 24 Try.underlying22 (by kernel_rfl)
  go_enter Try.func7, Try.ntmps7
  go_wp2_with fail
  with_reducible refine (alive_any _).mono ?_
  rintro e w1 ⟨rfl, hb1⟩
  have HB1 := Lib.hid hb1
  have HV1 := Lib.hid (HV.out.now hb1)
  clear hb1
  by_cases hs : n ≤ 100
  · have d1 : decide ((n : Int) > 100) = false := decide_eq_false (by omega)
    have hl3 : l.length ≤ 2000 := by have := HN.out; omega
    go_wp2_with fail
    with_reducible refine (right_any _ l _ HV1.out).mono ?_
    rintro e w2 ⟨rfl, hb2⟩
    have HB2 := Lib.hid (HB1.out.trans (hb2.mono HB1.out.size))
    have HV2 := Lib.hid (HV1.out.now hb2)
    clear hb2
    by_cases h0 : rightC l = 0
    · have d2 : (((rightC l : Nat) : Int) != 0) = false := by rw [h0]; rfl
      obtain ⟨_, hin, _, hso⟩ := right_ok h0
      have HIn := Lib.hid hin
      clear hso h0
      generalize ((rightC l : Nat) : Int) = r at *
      by_cases ha0 : a < 0
      · have d3 : decide (a < 0) = true := decide_eq_true ha0
        go_wp2_with fail
        go_ret
        exact ⟨rfl, HB2.out⟩
      have d3 : decide (a < 0) = false := decide_eq_false ha0
      by_cases hab : b < a
      · have d4 : decide (b < a) = true := decide_eq_true hab
        go_wp2_with fail
        go_ret
        exact ⟨rfl, HB2.out⟩
      have d4 : decide (b < a) = false := decide_eq_false hab
      by_cases hbm : 20000000 < b
      · have d5 : decide (b > 20000000) = true := decide_eq_true hbm
        go_wp2_with fail
        go_ret
        exact ⟨rfl, HB2.out⟩
      have d5 : decide (b > 20000000) = false := decide_eq_false hbm
      have hab' : a ≤ b := by omega
      have HOn : Hid (∀ W x, StrV Cr.cells 4 W W.heap.size (.slice A n c) l → Calls Try.prog 15 #[.slice A n c, .int .i64 x] W fun e w' => e = .returned (.int .i64 (onC l x)) ∧ Below W.heap.size W w') := fun W x h => on_any _ l x W h hl3 HIn.out
      have HCo : Hid (∀ W (x y : Int), StrV Cr.cells 4 W W.heap.size (.slice A n c) l → Calls Try.prog 19 #[.slice A n c, .int .i64 x, .int .i64 y, .agg #[.int .i64 (a + 1), .int .i64 (b + 1)]] W fun e w' => e = .returned (.int .i64 (cntC l x y (a + 1) (b + 1))) ∧ Below W.heap.size W w') := fun W x y h => count_any _ l x y (a + 1) (b + 1) W h hl3 HIn.out
      have HPb : Hid (∀ seen : List Cr, seen.length ≤ 100 → -10000000 ≤ partsC l a b seen ∧ partsC l a b seen ≤ 10000000) := fun seen hse => by
        have h1 := parts_bound hin a b seen
        have h2 : 1000 * (l.length : Int) * (seen.length : Int) ≤ 10000000 := by
          have e1 : (l.length : Int) ≤ 100 := by rw [HN.out]; omega
          have e2 : (seen.length : Int) ≤ 100 := by omega
          have e3 : 1000 * (l.length : Int) * (seen.length : Int) ≤ 100000 * (seen.length : Int) := Int.mul_le_mul_of_nonneg_right (by omega) (by omega)
          omega
        omega
      have HOb : Hid (-1000000 ≤ onC l a ∧ onC l a ≤ 1000000) := by
        have h := sumF_bound (onF a) l fun c hc => onF_bound (hin c hc) a
        have e1 : (l.length : Int) ≤ 100 := by rw [HN.out]; omega
        unfold onC
        exact hide (by omega)
      have HPc : Hid (∀ q, -100000 ≤ partC l a b q ∧ partC l a b q ≤ 100000) := fun q => by
        have h := part_bound hin a b q
        have e1 : (l.length : Int) ≤ 100 := by rw [HN.out]; omega
        omega
      have HDone : Hid (∀ seen, SeenC l seen n → onC l a + partsC l a b seen = onC l b) := fun seen h => SeenC.done (by rw [HN.out]; exact h) hab'
      clear hin
      go_wp2_with fail
      with_reducible refine (HOn.out _ _ HV2.out).mono ?_
      rintro e w3 ⟨rfl, hb3⟩
      have HB3 := Lib.hid (HB2.out.trans (hb3.mono HB2.out.size))
      have HV3 := Lib.hid (HV2.out.now hb3)
      clear hb3
      go_wp2_with fail
      clear hmk0
      have HBw4 := (Blk.new w3 24 #[])
      have HLw4 := (below_new w3 (.cells #[] 24))
      have hsw4 : (w3.alloc (.cells #[] 24)).heap.size = w3.heap.size + 1 := by simp
      generalize w3.alloc (.cells #[] 24) = w4 at HBw4 HLw4 hsw4 ⊢
      replace HBw4 := Lib.hid HBw4
      replace HLw4 := Lib.hid HLw4
      have hlw4 : w3.heap.size < w4.heap.size := by omega
      replace hsw4 := Lib.hid hsw4
      have HB4 : Hid (Below w.heap.size w w4) := hide (HB3.out.trans (HLw4.out.mono HB3.out.size))
      have HV4 := Lib.hid (HV3.out.now HLw4.out)
      have hs4 : w.heap.size ≤ w4.heap.size := HB4.out.size
      have HO4 : Hid (OwnCr w4 w.heap.size (.slice (some ⟨w3.heap.size, 0, none⟩) 0 0) []) := hide ⟨rfl, .inr ⟨w3.heap.size, 0, #[], rfl, HB3.out.size, HBw4.out, Nat.le_refl _, by simp [maxLen], rfl, rfl⟩⟩
      clear HBw4 HLw4 hsw4 hlw4
      go_loopw [7, 8, 9] (fun x sv i wr => ∃ (k : Nat) (seen : List Cr), k ≤ n ∧ i = .int .i64 k ∧ x = .int .i64 (onC l a + partsC l a b seen) ∧ OwnCr wr w.heap.size sv seen ∧ SeenC l seen k ∧ Below w.heap.size w wr) (fun _ _ i _ => n - (intOf i).toNat)
      case atStart => exact ⟨0, [], by omega, rfl, by simp [partsC], HO4.out, SeenC.start l, HB4.out⟩
      case round =>
        obtain ⟨k, seen, hk, rfl, rfl, hO, hse, hbr⟩ := hrel
        obtain ⟨wo, rfl⟩ : ∃ wo : World, wo = wr := ⟨_, rfl⟩
        have HBo := Lib.hid hbr
        have HSe := Lib.hid hse
        have HO := Lib.hid hO
        have HVo := Lib.hid (HV.out.now hbr)
        have HRo : Hid (Strs Cr.cells 4 wo wo.heap.size A n l) := hide (HRd.out.now hbr)
        have hslen := hse.len
        have hpb := HPb.out seen (by omega)
        have hob := HOb.out
        have hso : w.heap.size ≤ wo.heap.size := hbr.size
        obtain ⟨As, cs, rfl, hs1, hs2, hsr⟩ := own_open hO
        obtain ⟨ns, hns⟩ : ∃ x, seen.length = x := ⟨_, rfl⟩
        have HNs := Lib.hid hns
        have HSr : Hid (Strs Cr.cells 4 wo wo.heap.size As ns seen) := hide (by rw [← hns]; exact hsr)
        rw [hns] at hslen hs1 ⊢
        have hs2' := hs2
        unfold maxLen at hs2'
        clear hbr hse hO hsr hns
        by_cases hlt : k < n
        · have hkl : k < l.length := by rw [HN.out]; exact hlt
          obtain ⟨ad, hAe, hab3, hcl⟩ := strs_at (HRd.out.below HBo.out) (fun _ => rfl) HN.out hlt cr0
          have hab2 : ad.block < wo.heap.size := Nat.lt_of_lt_of_le hab3 hso
          subst hAe
          have HSkip : Hid ((seen.any fun c => sameK c (l.getD k cr0)) = true → SeenC l seen (k + 1)) := fun h => HSe.out.skip hkl h
          have HAdd : Hid ((seen.any fun c => sameK c (l.getD k cr0)) = false → SeenC l (seen ++ [l.getD k cr0]) (k + 1)) := fun h => HSe.out.add hkl h
          have HAn : Hid (∀ j, j < ns → (seen.take (j + 1)).any (fun c => sameK c (l.getD k cr0)) = ((seen.take j).any (fun c => sameK c (l.getD k cr0)) || sameK (seen.getD j cr0) (l.getD k cr0))) := fun j hj => any_snoc _ (by rw [HNs.out]; exact hj)
          have HAt : Hid ((seen.take ns).any (fun c => sameK c (l.getD k cr0)) = seen.any fun c => sameK c (l.getD k cr0)) := hide (by rw [List.take_of_length_le (by rw [HNs.out]; exact Nat.le_refl _)])
          have HCrs : Hid (Cr.cells (l.getD k cr0) = [.int .i64 (l.getD k cr0).kind, .int .i64 (l.getD k cr0).plc, .int .i64 (l.getD k cr0).num, .int .i64 (l.getD k cr0).att]) := hide rfl
          have HPd : Hid (partsC l a b (seen ++ [l.getD k cr0]) = partsC l a b seen + partC l a b (l.getD k cr0)) := hide (parts_snoc l a b seen _)
          have HPq : Hid (partC l a b (l.getD k cr0) = if (l.getD k cr0).kind = 1 then cntC l (l.getD k cr0).kind (l.getD k cr0).plc (a + 1) (b + 1) else -cntC l (l.getD k cr0).kind (l.getD k cr0).plc (a + 1) (b + 1)) := hide rfl
          have hpc := HPc.out (l.getD k cr0)
          obtain ⟨⟨kd, pl, nm, at_⟩, hq⟩ : ∃ q, l.getD k cr0 = q := ⟨_, rfl⟩
          rw [hq] at hcl HSkip HAdd HAn HAt HPd HPq hpc
          simp only at HPq
          clear hq HCrs
          have f0 : wo.cell? (ad.add (k * 4)) = some (.int .i64 kd) := by
            have h := hcl 0 _ rfl
            rwa [show (ad.add (k * 4)).add 0 = ad.add (k * 4) by unfold Addr.add; simp] at h
          have f1 : wo.cell? ⟨(ad.add (k * 4)).block, (ad.add (k * 4)).off + 1, none⟩ = some (.int .i64 pl) := hcl 1 _ rfl
          have HCl : Hid (∀ j u, ([.int .i64 kd, .int .i64 pl, .int .i64 nm, .int .i64 at_] : List Value)[j]? = some u → wo.cell? ((ad.add (k * 4)).add j) = some u) := hcl
          obtain ⟨P, hP⟩ : ∃ x, partsC l a b seen = x := ⟨_, rfl⟩
          rw [hP] at HPd hpb ⊢
          have HPs := Lib.hid hP
          clear hcl hP
          go_wp2_with fail
          go_loopw [10, 11] (fun kn j wi => ∃ m : Nat, m ≤ ns ∧ j = .int .i64 m ∧ kn = .bool ((seen.take m).any fun c => sameK c ⟨kd, pl, nm, at_⟩) ∧ Drew wo wi) (fun _ j _ => ns - (intOf j).toNat)
          case atStart => exact ⟨0, by omega, rfl, rfl, Drew.refl _⟩
          case round =>
            obtain ⟨m, hm2, rfl, rfl, hdr⟩ := hrel
            obtain ⟨wi, rfl⟩ : ∃ wi : World, wi = wr := ⟨_, rfl⟩
            have hbi := hdr.below wo.heap.size
            have g0 : wi.cell? (ad.add (k * 4)) = some (.int .i64 kd) := (hbi.cell (by rw [block_of_add]; exact hab2)).trans f0
            have g1 : wi.cell? ⟨(ad.add (k * 4)).block, (ad.add (k * 4)).off + 1, none⟩ = some (.int .i64 pl) := (hbi.cell (by rw [block_of_add]; exact hab2)).trans f1
            have HDr := Lib.hid hdr
            by_cases hlt2 : m < ns
            · obtain ⟨as_, hAs, hasb, hcs⟩ := strs_at (HSr.out.now hbi) (fun _ => rfl) HNs.out hlt2 cr0
              subst hAs
              have HA1 := Lib.hid (HAn.out m hlt2)
              obtain ⟨⟨k2, p2, n2, a2⟩, hq2⟩ : ∃ q, seen.getD m cr0 = q := ⟨_, rfl⟩
              rw [hq2] at hcs HA1
              have HSk : Hid (sameK (⟨k2, p2, n2, a2⟩ : Cr) ⟨kd, pl, nm, at_⟩ = (k2 == kd && p2 == pl)) := hide rfl
              rw [HSk.out] at HA1
              have s0 : wi.cell? (as_.add (m * 4)) = some (.int .i64 k2) := by
                have h := hcs 0 _ rfl
                rwa [show (as_.add (m * 4)).add 0 = as_.add (m * 4) by unfold Addr.add; simp] at h
              have s1 : wi.cell? ⟨(as_.add (m * 4)).block, (as_.add (m * 4)).off + 1, none⟩ = some (.int .i64 p2) := hcs 1 _ rfl
              obtain ⟨B1, hB1⟩ : ∃ x, (seen.take (m + 1)).any (fun c => sameK c ⟨kd, pl, nm, at_⟩) = x := ⟨_, rfl⟩
              rw [hB1] at HA1
              have HB1' := Lib.hid hB1
              generalize (seen.take m).any (fun c => sameK c ⟨kd, pl, nm, at_⟩) = b0 at *
              clear hcs hq2 HSk hB1 f0 f1 hbi hdr
              cases b0 with
              | true =>
                have HT : Hid (B1 = true) := by show _ = _; rw [HA1.out]; rfl
                clear g0 g1 s0 s1
                go_wp2_with fail
                go_quiet (fail)
                go_wp2_with fail
                go_roundw
                case rel => exact ⟨m + 1, by omega, by go_num, by rw [HB1'.out, HT.out], HDr.out.step _⟩
                case measure => simp [intOf]; omega
              | false =>
                by_cases hk2 : k2 = kd
                · have e1 : (k2 == kd) = true := beq_iff_eq.2 hk2
                  rw [e1] at HA1
                  clear hk2
                  obtain ⟨eb, heb⟩ : ∃ x, (p2 == pl) = x := ⟨_, rfl⟩
                  rw [heb] at HA1
                  have HT : Hid (B1 = eb) := by show _ = _; rw [HA1.out]; rfl
                  go_wp2_with fail
                  go_quiet (fail)
                  go_wp2_with fail
                  go_roundw
                  case rel => exact ⟨m + 1, by omega, by go_num, by rw [HB1'.out, HT.out], HDr.out.step _⟩
                  case measure => simp [intOf]; omega
                · have e1 : (k2 == kd) = false := beq_eq_false_iff_ne.2 hk2
                  rw [e1] at HA1
                  have HT : Hid (B1 = false) := by show _ = _; rw [HA1.out]; rfl
                  clear hk2
                  go_wp2_with fail
                  go_quiet (fail)
                  go_wp2_with fail
                  go_roundw
                  case rel => exact ⟨m + 1, by omega, by go_num, by rw [HB1'.out, HT.out], HDr.out.step _⟩
                  case measure => simp [intOf]; omega
            · obtain rfl : m = ns := by omega
              rw [HAt.out]
              have HBi := Lib.hid (HBo.out.trans (hbi.mono hso))
              have HVi := Lib.hid (HVo.out.now hbi)
              have HOi := Lib.hid (own_below HO.out hbi (Nat.le_refl _))
              have hsi : w.heap.size ≤ wi.heap.size := HBi.out.size
              obtain ⟨kn, hkn⟩ : ∃ x, (seen.any fun c => sameK c ⟨kd, pl, nm, at_⟩) = x := ⟨_, rfl⟩
              rw [hkn] at HSkip HAdd ⊢
              have HCi : Hid (∀ j u, ([.int .i64 kd, .int .i64 pl, .int .i64 nm, .int .i64 at_] : List Value)[j]? = some u → wi.cell? ((ad.add (k * 4)).add j) = some u) := fun j u hu => (hbi.cell (by rw [block_of_add, block_of_add]; exact hab2)).trans (HCl.out j u hu)
              clear hbi hdr hkn f0 f1
              cases kn with
              | true =>
                have HSe2 := Lib.hid (HSkip.out rfl)
                clear g0 g1
                go_wp2_with fail
                go_roundw
                case rel => exact ⟨k + 1, seen, by omega, by go_num, by rw [HPs.out], by have h := HOi.out; rw [HNs.out] at h; exact OwnCr.mk' h HNs.out, HSe2.out, HBi.out⟩
                case measure => simp [intOf]; omega
              | false =>
                have HSe2 := Lib.hid (HAdd.out rfl)
                clear g0 g1
                have HOj : Hid (wi.ownsRow w.heap.size 24 4 (.slice As m cs) m (seen.map Cr.cells).flatten) := hide (by have h := HOi.out; rwa [HNs.out] at h)
                have hwa : IntKind.i64.wrap (a + 1) = a + 1 := IntWalk.i64_in _ (by omega)
                have hwb : IntKind.i64.wrap (b + 1) = b + 1 := IntWalk.i64_in _ (by omega)
                go_upto_region 17 with (first
                  | (refine wpList_load_at 24 (.tmp 83) rfl rfl (ad.add (k * 4)) rfl [.int .i64 kd, .int .i64 pl, .int .i64 nm, .int .i64 at_] HCi.out _ Try.underlying24 rfl (by kernel_rfl) ?_)
                  | (at_builtin
                     refine wpList_app_lit ei_cr rfl (.tmp 80) (.tmp 85) rfl w.heap.size (.slice As m cs) m (seen.map Cr.cells).flatten rfl HOj.out 1 rfl rfl (by simp [Value.oneCell']) (by simp only [maxLen]; omega) (by omega) hsi ?_
                     intro v9 w9 hown9 hb9 hg9 hat9
                     have HO9 : Hid (OwnCr w9 w.heap.size v9 (seen ++ [⟨kd, pl, nm, at_⟩])) := hide (OwnCr.snoc hown9 (by rw [HNs.out]) rfl)
                     have HB9 := Lib.hid (HBi.out.trans (hb9.mono (Nat.le_refl _)))
                     have HV9 := Lib.hid (HV.out.now HB9.out)
                     have HC9 : Hid (∀ j u, ([.int .i64 kd, .int .i64 pl, .int .i64 nm, .int .i64 at_] : List Value)[j]? = some u → w9.cell? ((ad.add (k * 4)).add j) = some u) := fun j u hu => (hb9.cell (by rw [block_of_add, block_of_add]; exact hab3)).trans (HCi.out j u hu)
                     clear hown9 hb9 hg9 hat9))
                have c0 : w9.cell? (ad.add (k * 4)) = some (.int .i64 kd) := by
                  have h := HC9.out 0 _ rfl
                  rwa [show (ad.add (k * 4)).add 0 = ad.add (k * 4) by unfold Addr.add; simp] at h
                have c1 : w9.cell? ⟨(ad.add (k * 4)).block, (ad.add (k * 4)).off + 1, none⟩ = some (.int .i64 pl) := HC9.out 1 _ rfl
                have hab9 : ad.block < w9.heap.size := Nat.lt_of_lt_of_le hab3 HB9.out.size
                have HS : Hid (∀ W, Below w9.heap.size w9 W → (fun W => W.cell? (ad.add (k * 4)) = some (.int .i64 kd) ∧ W.cell? ⟨(ad.add (k * 4)).block, (ad.add (k * 4)).off + 1, none⟩ = some (.int .i64 pl)) W) := fun W hB => ⟨(hB.cell (by rw [block_of_add]; exact hab9)).trans c0, (hB.cell (by rw [block_of_add]; exact hab9)).trans c1⟩
                have HBd : Hid (Below w9.heap.size w9 w9.drew) := hide (Below.refl _ _).drew
                have HCd := Lib.hid (HCo.out w9.drew kd pl (HV9.out.now HBd.out))
                obtain ⟨q, hqq⟩ : ∃ x, cntC l kd pl (a + 1) (b + 1) = x := ⟨_, rfl⟩
                rw [hqq] at HPq HCd
                obtain ⟨pc, hpce⟩ : ∃ x, partC l a b ⟨kd, pl, nm, at_⟩ = x := ⟨_, rfl⟩
                rw [hpce] at HPq HPd hpc
                have hbase9 := HB9.out.size
                clear hqq hpce HCl HCi HOi HOj HBi HVi HO HBo HVo HRo HSr HAn HAt HAdd HSkip HCo
                refine wp_region_held_drew (S := fun W => W.cell? (ad.add (k * 4)) = some (.int .i64 kd) ∧ W.cell? ⟨(ad.add (k * 4)).block, (ad.add (k * 4)).off + 1, none⟩ = some (.int .i64 pl)) (by kernel_rfl) (HS.out _ HBd.out) (fun hHeld => ?_)
                refine held_run 0 (some 87) (.move (.tmp 0)) ?v17_1_2 (by rfl) (by kernel_rfl) (by kernel_rfl) (by kernel_rfl) (fun _ _ _ h => h) (fun o ho w hS => ?y17_1_2) (by assumption) ?r17_1_2
                case y17_1_2 => (try dsimp only at hS); unfold execOp; simp only [ho]; go_simp; try with_reducible rfl
                try simp only [Act.put, List.setIfInBounds_toArray, List.set_cons_zero, List.set_cons_succ]
                refine held_run 1 (some 88) (.move (.tmp 0)) ?v17_1_3 (by rfl) (by kernel_rfl) (by kernel_rfl) (by kernel_rfl) (fun _ _ _ h => h) (fun o ho w hS => ?y17_1_3) (by assumption) ?r17_1_3
                case y17_1_3 => (try dsimp only at hS); unfold execOp; simp only [ho]; go_simp; try with_reducible rfl
                try simp only [Act.put, List.setIfInBounds_toArray, List.set_cons_zero, List.set_cons_succ]
                refine held_run 2 (some 89) (.move (.tmp 9)) ?v17_1_4 (by rfl) (by kernel_rfl) (by kernel_rfl) (by kernel_rfl) (fun _ _ _ h => h) (fun o ho w hS => ?y17_1_4) (by assumption) ?r17_1_4
                case y17_1_4 => (try dsimp only at hS); unfold execOp; simp only [ho]; go_simp; try with_reducible rfl
                try simp only [Act.put, List.setIfInBounds_toArray, List.set_cons_zero, List.set_cons_succ]
                refine held_run 3 (some 90) (.indexAddr 22 (.tmp 88) (.tmp 89)) ?v17_1_5 (by rfl) (by kernel_rfl) (by kernel_rfl) (by kernel_rfl) (fun _ _ _ h => h) (fun o ho w hS => ?y17_1_5) (by assumption) ?r17_1_5
                case y17_1_5 => (try dsimp only at hS); unfold execOp; simp only [ho]; go_simp; try with_reducible rfl
                try simp only [Act.put, List.setIfInBounds_toArray, List.set_cons_zero, List.set_cons_succ]
                refine held_run 4 (some 91) (.fieldAddr 24 (.tmp 90) 0) ?v17_1_6 (by rfl) (by kernel_rfl) (by kernel_rfl) (by kernel_rfl) (fun _ _ _ h => h) (fun o ho w hS => ?y17_1_6) (by assumption) ?r17_1_6
                case y17_1_6 => (try dsimp only at hS); unfold execOp; simp only [ho]; go_simp; try with_reducible rfl
                try simp only [Act.put, List.setIfInBounds_toArray, List.set_cons_zero, List.set_cons_succ]
                refine held_run 5 (some 92) (.load 3 (.tmp 91)) ?v17_1_7 (by rfl) (by kernel_rfl) (by kernel_rfl) (by kernel_rfl) (fun _ _ _ h => h) (fun o ho w hS => ?y17_1_7) (by assumption) ?r17_1_7
                case y17_1_7 => (try dsimp only at hS); unfold execOp; simp only [ho]; go_simp; try with_reducible rfl
                try simp only [Act.put, List.setIfInBounds_toArray, List.set_cons_zero, List.set_cons_succ]
                refine held_run 6 (some 93) (.move (.tmp 0)) ?v17_1_8 (by rfl) (by kernel_rfl) (by kernel_rfl) (by kernel_rfl) (fun _ _ _ h => h) (fun o ho w hS => ?y17_1_8) (by assumption) ?r17_1_8
                case y17_1_8 => (try dsimp only at hS); unfold execOp; simp only [ho]; go_simp; try with_reducible rfl
                try simp only [Act.put, List.setIfInBounds_toArray, List.set_cons_zero, List.set_cons_succ]
                refine held_run 7 (some 94) (.move (.tmp 9)) ?v17_1_9 (by rfl) (by kernel_rfl) (by kernel_rfl) (by kernel_rfl) (fun _ _ _ h => h) (fun o ho w hS => ?y17_1_9) (by assumption) ?r17_1_9
                case y17_1_9 => (try dsimp only at hS); unfold execOp; simp only [ho]; go_simp; try with_reducible rfl
                try simp only [Act.put, List.setIfInBounds_toArray, List.set_cons_zero, List.set_cons_succ]
                refine held_run 8 (some 95) (.indexAddr 22 (.tmp 93) (.tmp 94)) ?v17_1_10 (by rfl) (by kernel_rfl) (by kernel_rfl) (by kernel_rfl) (fun _ _ _ h => h) (fun o ho w hS => ?y17_1_10) (by assumption) ?r17_1_10
                case y17_1_10 => (try dsimp only at hS); unfold execOp; simp only [ho]; go_simp; try with_reducible rfl
                try simp only [Act.put, List.setIfInBounds_toArray, List.set_cons_zero, List.set_cons_succ]
                refine held_run 9 (some 96) (.fieldAddr 24 (.tmp 95) 1) ?v17_1_11 (by rfl) (by kernel_rfl) (by kernel_rfl) (by kernel_rfl) (fun _ _ _ h => h) (fun o ho w hS => ?y17_1_11) (by assumption) ?r17_1_11
                case y17_1_11 => (try dsimp only at hS); unfold execOp; simp only [ho]; go_simp; try with_reducible rfl
                try simp only [Act.put, List.setIfInBounds_toArray, List.set_cons_zero, List.set_cons_succ]
                refine held_run 10 (some 97) (.load 3 (.tmp 96)) ?v17_1_12 (by rfl) (by kernel_rfl) (by kernel_rfl) (by kernel_rfl) (fun _ _ _ h => h) (fun o ho w hS => ?y17_1_12) (by assumption) ?r17_1_12
                case y17_1_12 => (try dsimp only at hS); unfold execOp; simp only [ho]; go_simp; try with_reducible rfl
                try simp only [Act.put, List.setIfInBounds_toArray, List.set_cons_zero, List.set_cons_succ]
                refine held_run 11 (some 98) (.move (.tmp 1)) ?v17_1_13 (by rfl) (by kernel_rfl) (by kernel_rfl) (by kernel_rfl) (fun _ _ _ h => h) (fun o ho w hS => ?y17_1_13) (by assumption) ?r17_1_13
                case y17_1_13 => (try dsimp only at hS); unfold execOp; simp only [ho]; go_simp; try with_reducible rfl
                try simp only [Act.put, List.setIfInBounds_toArray, List.set_cons_zero, List.set_cons_succ]
                refine held_run 12 (some 99) (.binOp .add 3 (.tmp 98) (.const (.int .i64 1)) 3) ?v17_1_14 (by rfl) (by kernel_rfl) (by kernel_rfl) (by kernel_rfl) (fun _ _ _ h => h) (fun o ho w hS => ?y17_1_14) (by assumption) ?r17_1_14
                case y17_1_14 => (try dsimp only at hS); unfold execOp; simp only [ho]; go_simp; try with_reducible rfl
                try simp only [Act.put, List.setIfInBounds_toArray, List.set_cons_zero, List.set_cons_succ]
                refine held_run 13 (some 100) (.move (.tmp 2)) ?v17_1_15 (by rfl) (by kernel_rfl) (by kernel_rfl) (by kernel_rfl) (fun _ _ _ h => h) (fun o ho w hS => ?y17_1_15) (by assumption) ?r17_1_15
                case y17_1_15 => (try dsimp only at hS); unfold execOp; simp only [ho]; go_simp; try with_reducible rfl
                try simp only [Act.put, List.setIfInBounds_toArray, List.set_cons_zero, List.set_cons_succ]
                refine held_run 14 (some 101) (.binOp .add 3 (.tmp 100) (.const (.int .i64 1)) 3) ?v17_1_16 (by rfl) (by kernel_rfl) (by kernel_rfl) (by kernel_rfl) (fun _ _ _ h => h) (fun o ho w hS => ?y17_1_16) (by assumption) ?r17_1_16
                case y17_1_16 => (try dsimp only at hS); unfold execOp; simp only [ho]; go_simp; try with_reducible rfl
                try simp only [Act.put, List.setIfInBounds_toArray, List.set_cons_zero, List.set_cons_succ]
                refine held_run 15 (some 102) (.build 34 #[(0, (.tmp 99)), (1, (.tmp 101))]) ?v17_1_17 (by rfl) (by kernel_rfl) (by kernel_rfl) (by kernel_rfl) (fun _ _ _ h => h) (fun o ho w hS => ?y17_1_17) (by assumption) ?r17_1_17
                case y17_1_17 => (try dsimp only at hS); unfold execOp; simp only [ho]; go_simp; try with_reducible rfl
                try simp only [Act.put, List.setIfInBounds_toArray, List.set_cons_zero, List.set_cons_succ]
                refine held_call 16 (some 103) 19 [(.tmp 87), (.tmp 92), (.tmp 97), (.tmp 102)] #[22, 3, 3, 34] #[.slice (some ad) n c, .int .i64 kd, .int .i64 pl, .agg #[.int .i64 (a + 1), .int .i64 (b + 1)]] (by rfl) (by rfl) (by kernel_rfl) Try.func19 (by rfl) (by rfl) ?_
                refine (HCd.out).mono ?_
                rintro e wz ⟨rfl, hbz⟩
                have hbq : Below w9.heap.size w9 wz := HBd.out.trans (hbz.mono HBd.out.size)
                have hHz := HS.out _ hbq
                have HOz := Lib.hid (own_below HO9.out hbq (Nat.le_refl _))
                have HBz := Lib.hid (HB9.out.trans (hbq.mono hbase9))
                clear hbz hbq
                refine ⟨_, rfl, hHz, ?_⟩
                try simp only [Act.put, List.setIfInBounds_toArray, List.set_cons_zero, List.set_cons_succ]
                refine held_run 17 (some 12) (.assign (.tmp 103)) ?v17_1_19 (by rfl) (by kernel_rfl) (by kernel_rfl) (by kernel_rfl) (fun _ _ _ h => h) (fun o ho w hS => ?y17_1_19) (by assumption) ?r17_1_19
                case y17_1_19 => (try dsimp only at hS); unfold execOp; simp only [ho]; go_simp; try with_reducible rfl
                try simp only [Act.put, List.setIfInBounds_toArray, List.set_cons_zero, List.set_cons_succ]
                refine wpAnyH_done (by kernel_rfl) ?_ _
                clear hwa hwb c0 c1
                have z0 := hHz.1
                by_cases hk1 : kd = 1
                · have d6 : (kd == 1) = true := beq_iff_eq.2 hk1
                  have hpq : pc = q := by rw [HPq.out, if_pos hk1]
                  subst hpq
                  clear hk1
                  go_wp2_with fail
                  go_roundw
                  case rel => exact ⟨k + 1, _, by omega, by go_num, by rw [HPd.out, Int.add_assoc], HOz.out, HSe2.out, HBz.out⟩
                  case measure => simp [intOf]; omega
                · have d6 : (kd == 1) = false := beq_eq_false_iff_ne.2 hk1
                  have HPn : Hid (pc = -q) := hide (by rw [HPq.out, if_neg hk1])
                  have hqb : -100000 ≤ q ∧ q ≤ 100000 := by have := HPn.out; omega
                  clear hk1
                  go_wp2_with fail
                  go_roundw
                  case rel => exact ⟨k + 1, _, by omega, by go_num, by rw [HPd.out, HPn.out, ← Int.add_assoc]; rfl, HOz.out, HSe2.out, HBz.out⟩
                  case measure => simp [intOf]; omega
        · obtain rfl : k = n := by omega
          have HD := Lib.hid (HDone.out seen HSe.out)
          have e1 : (onC l a + partsC l a b seen == onC l b) = true := beq_iff_eq.2 HD.out
          have HOe := Lib.hid (HOn.out wo b HVo.out)
          generalize onC l a + partsC l a b seen = X at *
          generalize onC l b = Y at *
          go_wp2_with fail
          with_reducible refine (HOe.out).mono ?_
          rintro e wz ⟨rfl, hbz⟩
          have HBz := Lib.hid (HBo.out.trans (hbz.mono HBo.out.size))
          clear hbz
          go_wp2_with fail
          go_ret
          exact ⟨rfl, HBz.out⟩
    · have d2 : (((rightC l : Nat) : Int) != 0) = true := bne_iff_ne.2 (by omega)
      generalize ((rightC l : Nat) : Int) = r at *
      go_wp2_with fail
      go_ret
      exact ⟨rfl, HB2.out⟩
  · have d1 : decide ((n : Int) > 100) = true := decide_eq_true (by omega)
    go_wp2_with fail
    go_ret
    exact ⟨rfl, HB1.out⟩


theorem own_censusParts : ownKnob Try.prog.godebug = none := by kernel_rfl
theorem laidOut_censusParts : laidOutB Try.prog = true := by kernel_rfl
set_option maxRecDepth 100000 in
theorem censusParts_lifted (os : Os) (started : os.Started) (H : Type) (enc : TypeId × Value → H) :
    ReturnsInHanded {} Try.checked os 7 .any (Rows.censusPartsSpec.pre6 enc Try.prog Try.f7 Rows.censusPartsRow.domain false) (Rows.censusPartsSpec.post enc Try.prog Try.f7 false true false false) := by
  refine returnsInHanded_of_change (C := Try.checked) own_censusParts started (by kernel_rfl) Try.func7
    (ChangeSpec.witness6 (enc := enc) (C := Try.checked) false ⟨#[], #[.slice none 0 0, .int .i64 0, .int .i64 0], []⟩ 8 (by kernel_rfl) (by kernel_rfl) (by kernel_rfl) (by kernel_rfl)) ?_
  intro W base args ds gs before hval0 hW hcnd _
  have hval : ∀ (j : Nat) t v, Try.f7.params[j]? = some t → args[j]? = some v → Value.okWide Try.prog W .any base t v := hval0
  have hW' := hW
  obtain ⟨p, q, hA0, hV, rfl, hfz, hnd⟩ := hW
  have hA : DataW.TrodAll enc Try.prog W 0 (fun _ => true) true Try.f7.params.toList args.toList ds p := hA0
  rw [Try.params7] at hA hval
  obtain ⟨v0, vs0, d0, ds0, p0, q0, hargs, rfl, rfl, h0, r0⟩ := trodAll_cons hA
  obtain ⟨v1, vs1, d1, ds1, p1, q1, rfl, rfl, rfl, h1, r1⟩ := trodAll_cons r0
  obtain ⟨v2, vs2, d2, ds2, p2, q2, rfl, rfl, rfl, h2, r2⟩ := trodAll_cons r1
  obtain ⟨rfl, rfl, rfl⟩ := trodAll_nil r2
  obtain rfl : args = #[v0, v1, v2] := by cases args; simp_all
  obtain ⟨rfl, rfl⟩ := trodVars_none hV
  obtain ⟨l, hl⟩ := open_crs (hval 0 22 v0 rfl rfl) h0
  obtain ⟨a, rfl, a0, a1⟩ := open_i64 Try.underlying3 (hval 1 3 v1 rfl rfl) h1
  obtain ⟨b, rfl, b0, b1⟩ := open_i64 Try.underlying3 (hval 2 3 v2 rfl rfl) h2
  refine (censusParts_any W v0 l hl a ⟨a0, a1⟩ b ⟨b0, b1⟩).mono fun e W' ⟨he, hb⟩ => ?_
  subst he
  exact ⟨_, rfl, law_post laidOut_censusParts (by kernel_rfl) rfl rfl Try.underlying4 hW' rfl hb⟩

theorem censusParts_holds : Rows.CensusPartsSaid :=
  OpenClaim.holds_of_wide 7 Try.f7 rfl rfl rfl rfl rfl rfl rfl ⟨rfl, rfl, rfl, rfl, rfl⟩ rfl rfl rfl rfl rfl (by kernel_rfl) Try.func7 (by kernel_rfl)
    (of_decide_eq_true (by kernel_rfl)) (by unfold Func.isWrapper; rw [if_neg (by decide +kernel)]; exact ⟨rfl, rfl⟩)
    (fun os started H enc _ => censusParts_lifted os started H enc)
#print axioms censusParts_holds

end Go.Proofs.Ytihmboibpjfohaa
