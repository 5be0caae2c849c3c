/-
  BulletinLatest answers true for every input. Its conditions: none. (One heavy walk.)
-/
import Derived.Test.YtmbdlnimegdigaaRows
import Derived.Test.YtmbdlnimegdigaaRowS
import Derived.Test.YtmbdlnimegdigaaBulG
import Derived.Test.YtmbdlnimegdigaaBulK
import Derived.Test.YtmbdlnimegdigaaBulL
import Derived.Test.YtmbdlnimegdigaaBulV
import Derived.Test.YtmbdlnimegdigaaRegA
import Derived.Test.YtmbdlnimegdigaaReg
namespace Go.Proofs.Ytmbdlnimegdigaa
open Go.ChangeShapes Go.WideShapes Go.ChangeAt Go.RowKit

set_option maxRecDepth 100000 in
set_option maxHeartbeats 40000000 in
theorem bulletinLatest_any (w : World) (lA : Option Addr) (ln lc : Nat) (l : List Bu) (l1 : ln ≤ lc) (l2 : lc ≤ maxLen) (lr : Buls w w.heap.size lA ln l) (lw : ∀ b ∈ l, BuW b) (pz pl ph pt : Int) (wpz : (Lit.int .i64 pz).wf = true) (wpl : (Lit.int .i64 pl).wf = true) (wph : (Lit.int .i64 ph).wf = true) (wpt : (Lit.int .i64 pt).wf = true) (other : Int) (hother : -9223372036854775808 ≤ other ∧ other ≤ 9223372036854775807) :
    Calls Try.prog 6 #[.slice lA ln lc, .agg #[.int .i64 pz, .int .i64 pl, .int .i64 ph, .int .i64 pt], .int .i64 other] w fun e w' => e = .returned (.bool true) ∧ Below w.heap.size w w' := by
  have HR0 := Lib.hid lr
  have HB0 : Hid (Below w.heap.size w w) := hide (Below.refl _ _)
  have HL := Lib.hid lr.len
  clear lr
  have hln : ln ≤ maxLen := Nat.le_trans l1 l2
  obtain ⟨r, hr⟩ : ∃ r, rightB l = r := ⟨_, rfl⟩
  have HF := Lib.hid hr
  clear hr lw
  go_enter Try.func6, Try.ntmps6
  obtain ⟨w0, rfl⟩ : ∃ w0 : World, w0 = w := ⟨_, rfl⟩
  go_wp2_with
    (refine wpList_box_blk rfl 37 (.tmp 1) rfl #[.int .i64 pz, .int .i64 pl, .int .i64 ph, .int .i64 pt] rfl ?_
     intro w1 hx1 hb1 hsz1
     have HP1 := Lib.hid hx1
     have HB1 := Lib.hid (HB0.out.trans (hb1.mono HB0.out.size))
     have HR1 := Lib.hid (HR0.out.now hb1)
     have hlt1 := hx1.lt
     clear hx1 hb1 hsz1)
  with_reducible refine (alive_any _).mono ?_
  rintro e w2 ⟨rfl, hb2⟩
  have HB2 := Lib.hid (HB1.out.trans (hb2.mono HB1.out.size))
  have HR2 := Lib.hid (HR1.out.now hb2)
  have HP2 := Lib.hid (HP1.out.below hb2 hlt1)
  have hlt2 := Nat.lt_of_lt_of_le hlt1 hb2.size
  clear hb2
  go_wp2_with fail
  with_reducible refine (rgt_any _ _ _ _ r _ HR2.out HF.out).mono ?_
  rintro e w3 ⟨rfl, hb3⟩
  have HB3 := Lib.hid (HB2.out.trans (hb3.mono HB2.out.size))
  have HR3 := Lib.hid (HR2.out.now hb3)
  have HP3 := Lib.hid (HP2.out.below hb3 hlt2)
  have hlt3 := Nat.lt_of_lt_of_le hlt2 hb3.size
  clear hb3
  cases r with
  | false =>
    go_wp2_with fail
    go_ret
    exact ⟨rfl, HB3.out⟩
  | true =>
    by_cases o1 : other < 1
    · go_wp2_with fail
      go_ret
      exact ⟨rfl, HB3.out⟩
    by_cases o2 : other > 5
    · go_wp2_with fail
      go_ret
      exact ⟨rfl, HB3.out⟩
    have hF : fewB l = true ∧ rightN l = 0 := by have h := HF.out; simpa [rightB] using h
    have hfew : ∀ {l : List Bu} {n : Nat}, fewB l = true → l.length = n → n ≤ 100 ∧ ∀ b ∈ l, b.zs.length ≤ 1000 := by
      intro l n h hl
      simp only [fewB, Bool.and_eq_true, decide_eq_true_eq, List.all_eq_true] at h
      exact ⟨by omega, fun b hb => by have := h.2 b hb; omega⟩
    obtain ⟨hn, _⟩ := hfew hF.1 HL.out
    have HRn := Lib.hid hF.2
    clear hfew hF HF
    obtain ⟨v, hv⟩ : ∃ v, curN l pt = v := ⟨_, rfl⟩
    have HV := Lib.hid hv
    clear hv
    have HC : Hid (∀ W : World, Buls W W.heap.size lA ln l → Calls Try.prog 17 #[.slice lA ln lc, .int .i64 pt] W fun e w' => e = .returned (.int .i64 v) ∧ Below W.heap.size W w') := fun W hW => HV.out ▸ cur_any lA ln lc l pt W hW hln
    have p_0 : w3.cell? ⟨w0.heap.size, 0, none⟩ = some (.int .i64 pz) := HP3.out.cell 0
    have p_1 : w3.cell? ⟨w0.heap.size, 1, none⟩ = some (.int .i64 pl) := HP3.out.cell 1
    have p_2 : w3.cell? ⟨w0.heap.size, 2, none⟩ = some (.int .i64 ph) := HP3.out.cell 2
    have p_3 : w3.cell? ⟨w0.heap.size, 3, none⟩ = some (.int .i64 pt) := HP3.out.cell 3
    go_wp2_with fail
    with_reducible refine (HC.out _ HR3.out).mono ?_
    rintro e w4 ⟨rfl, hb4⟩
    have HB4 := Lib.hid (HB3.out.trans (hb4.mono HB3.out.size))
    have HR4 := Lib.hid (HR3.out.now hb4)
    have HP4 := Lib.hid (HP3.out.below hb4 hlt3)
    have hlt4 := Nat.lt_of_lt_of_le hlt3 hb4.size
    clear hb4
    clear p_0 p_1 p_2 p_3 HC
    go_wp2_with fail
    go_loopw [8, 9, 10, 11] (fun la ch wv i wr => ∃ (k : Nat) (z1 z2 : List Value), k ≤ ln ∧ i = .int .i64 k ∧ wv = .int .i64 (levF (countB v pt) 0 (l.take k)) ∧ z1.length = (latestN v (l.take k)).length ∧ z2.length = k ∧ wr.ownsRow w4.heap.size 31 7 la z1.length (flatB (latestN v (l.take k)) z1) ∧ RowsV w4 w4.heap.size z1 ((latestN v (l.take k)).map Bu.zs) ∧ wr.ownsRow w4.heap.size 31 7 ch k (flatB (changedN v other (l.take k)) z2) ∧ RowsV w4 w4.heap.size z2 ((changedN v other (l.take k)).map Bu.zs) ∧ NE la ch ∧ Below w4.heap.size w4 wr) (fun _ _ _ i _ => ln - (intOf i).toNat)
    case atStart => exact ⟨0, [], [], by omega, rfl, rfl, rfl, rfl, World.ownsRow_nil _ _ _ _, trivial, World.ownsRow_nil _ _ _ _, trivial, .inl rfl, Below.refl _ _⟩
    case round =>
      obtain ⟨k, z1, z2, hk, rfl, rfl, hz1, hz2, ho1, hr1, ho2, hr2, hne, hb6⟩ := hrel
      obtain ⟨w6, rfl⟩ : ∃ w6 : World, w6 = wr := ⟨_, rfl⟩
      obtain ⟨n1, hn1⟩ : ∃ n, z1.length = n := ⟨_, rfl⟩
      rw [hn1] at hz1 ho1
      have hn1k : n1 ≤ k := by rw [hz1]; unfold latestN; exact Nat.le_trans (List.length_filter_le _ _) (by simp; omega)
      have hcl2 : (changedN v other (l.take k)).length = k := by unfold changedN; rw [List.length_map, List.length_take, HL.out]; omega
      obtain ⟨Al, cl, rfl, hcl1, hcl3, _⟩ := own_open ho1
      obtain ⟨Ac, cc, rfl, hcc1, hcc3, _⟩ := own_open ho2
      have HO1 := Lib.hid ho1
      have HO2 := Lib.hid ho2
      have HNe := Lib.hid hne
      have HQ1 := Lib.hid hr1
      have HQ2 := Lib.hid hr2
      have HZ1 := Lib.hid hz1
      have HZ2 := Lib.hid hz2
      have HN1 := Lib.hid hn1
      have HCl := Lib.hid hcl2
      have hsz := hb6.size
      have HL6 := Lib.hid hb6
      have HP6 := Lib.hid (HP4.out.below hb6 hlt4)
      have HB6 := Lib.hid (HB4.out.trans (hb6.mono HB4.out.size))
      have hlt6 := Nat.lt_of_lt_of_le hlt4 hsz
      clear ho1 ho2 hne hr1 hr2 hz1 hz2 hn1 hcl2
      by_cases hlt : k < ln
      · skip
        obtain ⟨ad, z, rfl, hab, hcs, hrow⟩ := HR4.out.at_ hlt
        have hkl : k < l.length := by rw [HL.out]; exact hlt
        have HCs0 : Hid (∀ j u, ((l.getD k ⟨0, 0, 0, 0, 0, 0, []⟩).cells z)[j]? = some u → w6.cell? ((ad.add (k * 7)).add j) = some u) := hide fun j u hu => (HL6.out.cell (by rw [block_of_add, block_of_add]; exact hab)).trans (hcs j u hu)
        have HTk := Lib.hid (bu_take l k hkl)
        have HSn := Lib.hid (levF_snoc (countB v pt) 0 (l.take k) (l.getD k ⟨0, 0, 0, 0, 0, 0, []⟩))
        have HCh := Lib.hid (changed_snoc v other (l.take k) (l.getD k ⟨0, 0, 0, 0, 0, 0, []⟩))
        have HLy : Hid ((l.getD k ⟨0, 0, 0, 0, 0, 0, []⟩).ver = v → latestN v (l.take (k + 1)) = latestN v (l.take k) ++ [l.getD k ⟨0, 0, 0, 0, 0, 0, []⟩]) := hide fun h => by rw [HTk.out]; exact latest_yes h
        have HLn : Hid ((l.getD k ⟨0, 0, 0, 0, 0, 0, []⟩).ver ≠ v → latestN v (l.take (k + 1)) = latestN v (l.take k)) := hide fun h => by rw [HTk.out]; exact latest_no h
        have HVc : Hid (hasB (l.getD k ⟨0, 0, 0, 0, 0, 0, []⟩) pt = true → (l.getD k ⟨0, 0, 0, 0, 0, 0, []⟩).ver ≤ v) := hide fun h => HV.out ▸ ver_cur (bu_mem hkl) h
        rw [← HTk.out] at HSn HCh
        generalize l.getD k ⟨0, 0, 0, 0, 0, 0, []⟩ = b at *
        obtain ⟨T1, hT1⟩ : ∃ T, latestN v (l.take k) = T := ⟨_, rfl⟩
        obtain ⟨T2, hT2⟩ : ∃ T, changedN v other (l.take k) = T := ⟨_, rfl⟩
        obtain ⟨wv, hwv⟩ : ∃ T, levF (countB v pt) 0 (l.take k) = T := ⟨_, rfl⟩
        rw [hT1] at HO1 HQ1 HZ1 HLy HLn
        rw [hT2] at HO2 HQ2 HCl HCh
        rw [hwv] at HSn ⊢
        clear hT1 hT2 hwv hcs HTk
        obtain ⟨ver, fr, ti, lo, hi, lev, zs⟩ := b
        obtain ⟨A2, c2, rfl, hz1, hz2, hzr⟩ := hrow
        have HRow : Hid (RowV w4 w4.heap.size (.slice A2 zs.length c2) zs) := hide ⟨A2, c2, rfl, hz1, hz2, hzr⟩
        simp only at HRow hz1 hz2 HCs0
        obtain ⟨n2, hn2⟩ : ∃ n2, zs.length = n2 := ⟨_, rfl⟩
        rw [hn2] at HRow HCs0
        have HCs : Hid (∀ j u, ([.int .i64 ver, .int .i64 fr, .int .i64 ti, .int .i64 lo, .int .i64 hi, .slice A2 n2 c2, .int .i64 lev] : List Value)[j]? = some u → w6.cell? ((ad.add (k * 7)).add j) = some u) := HCs0.out
        clear hz1 hz2 hzr hn2 HCs0
        by_cases hf : fr ≤ pt
        · by_cases ht : pt < ti
          · skip
            have hh : hasB ⟨ver, fr, ti, lo, hi, lev, zs⟩ pt = true := by unfold hasB; simp only [Bool.and_eq_true, decide_eq_true_eq]; exact ⟨hf, ht⟩
            have hvle : ver ≤ v := HVc.out hh
            by_cases hv : ver = v
            · skip
              have hcB : countB v pt ⟨ver, fr, ti, lo, hi, lev, zs⟩ = true := by unfold countB; rw [decide_eq_true hv]; exact hh
              have HT1 := Lib.hid (HLy.out hv)
              rw [other_yes hv] at HCh
              have HSv : Hid (levF (countB v pt) 0 (l.take (k + 1)) = if wv < lev then lev else wv) := hide (HSn.out.trans (by rw [hcB]; simp))
              clear hcB
              clear hh
              subst hv
              go_wp2_with
                (first
                 | (refine wpList_load_at 31 (.tmp 38) rfl rfl (ad.add (k * 7)) rfl [.int .i64 ver, .int .i64 fr, .int .i64 ti, .int .i64 lo, .int .i64 hi, .slice A2 n2 c2, .int .i64 lev] HCs.out _ Try.underlying31 rfl (by kernel_rfl) ?_)
                 | (refine wpList_store_blk rfl 31 (.tmp 12) (.tmp 39) rfl w6.heap.size #[.int .i64 ver, .int .i64 fr, .int .i64 ti, .int .i64 lo, .int .i64 hi, .slice A2 n2 c2, .int .i64 lev] rfl rfl _ _ (Blk.new w6 31 #[.int .i64 0, .int .i64 0, .int .i64 0, .int .i64 0, .int .i64 0, .slice none 0 0, .int .i64 0]) (by kernel_rfl) rfl (by simp [Value.oneCell']) ?_
                    intro w7 hx7 hon7
                    have HX7 := Lib.hid hx7
                    have hb7 := hon7.below (below_new w6 (.cells #[.int .i64 0, .int .i64 0, .int .i64 0, .int .i64 0, .int .i64 0, .slice none 0 0, .int .i64 0] 31)) (Nat.le_refl _)
                    have HL7 := Lib.hid (HL6.out.trans (hb7.mono hsz))
                    have HO17 := Lib.hid (hon7.own (HO1.out.alloc _) (fun h => by have := (World.ownsRow.lt HO1.out _ h).2; omega))
                    have HO27 := Lib.hid (hon7.own (HO2.out.alloc _) (fun h => by have := (World.ownsRow.lt HO2.out _ h).2; omega))
                    have HP7 := Lib.hid (HP6.out.below hb7 hlt6)
                    have hs7 : w6.heap.size < w7.heap.size := hx7.lt
                    have e7_0 : w7.cell? ⟨w6.heap.size, 0, none⟩ = some (.int .i64 ver) := HX7.out.cell 0
                    have e7_1 : w7.cell? ⟨w6.heap.size, 1, none⟩ = some (.int .i64 fr) := HX7.out.cell 1
                    have e7_2 : w7.cell? ⟨w6.heap.size, 2, none⟩ = some (.int .i64 ti) := HX7.out.cell 2
                    have e7_3 : w7.cell? ⟨w6.heap.size, 3, none⟩ = some (.int .i64 lo) := HX7.out.cell 3
                    have e7_4 : w7.cell? ⟨w6.heap.size, 4, none⟩ = some (.int .i64 hi) := HX7.out.cell 4
                    have e7_5 : w7.cell? ⟨w6.heap.size, 5, none⟩ = some (.slice A2 n2 c2) := HX7.out.cell 5
                    have e7_6 : w7.cell? ⟨w6.heap.size, 6, none⟩ = some (.int .i64 lev) := HX7.out.cell 6
                    have p7_0 : w7.cell? ⟨w0.heap.size, 0, none⟩ = some (.int .i64 pz) := HP7.out.cell 0
                    have p7_1 : w7.cell? ⟨w0.heap.size, 1, none⟩ = some (.int .i64 pl) := HP7.out.cell 1
                    have p7_2 : w7.cell? ⟨w0.heap.size, 2, none⟩ = some (.int .i64 ph) := HP7.out.cell 2
                    have p7_3 : w7.cell? ⟨w0.heap.size, 3, none⟩ = some (.int .i64 pt) := HP7.out.cell 3
                    clear hx7 hon7 hb7)
                 | (at_builtin
                    refine wpList_app_lit ei_bul rfl (.tmp 64) (.tmp 66) rfl w4.heap.size (.slice Al n1 cl) n1 (flatB T1 z1) rfl HO17.out 1 rfl rfl (by simp [Value.oneCell']) (by simp only [maxLen]; omega) (by omega) (by omega) ?_
                    intro v8 w8 hown8 hb8 hg8 hat8
                    have HO18 : Hid (w8.ownsRow w4.heap.size 31 7 v8 (n1 + 1) (flatB (T1 ++ [⟨ver, fr, ti, lo, hi, lev, zs⟩]) (z1 ++ [.slice A2 n2 c2]))) := by
                      show World.ownsRow _ _ _ _ _ _ _
                      rw [flatB_snoc _ _ (by rw [← HZ1.out, HN1.out])]
                      exact hown8
                    have HO28 := Lib.hid (kept_row hg8 HO27.out (HNe.out.symm.left))
                    have HX8 := Lib.hid (kept_blk hg8 HX7.out (fun h => by have := (World.ownsRow.lt HO1.out _ h).2; omega))
                    have HO28 := Lib.hid (kept_row hg8 HO27.out (HNe.out.symm.left))
                    have HX8 := Lib.hid (kept_blk hg8 HX7.out (fun h => by have := (World.ownsRow.lt HO1.out _ h).2; omega))
                    have HP8 := Lib.hid (HP7.out.below hb8 hlt4)
                    have HL8 := Lib.hid (HL7.out.trans hb8)
                    have hs8 := hb8.size
                    have HNe8 : Hid (NE v8 (.slice Ac k cc)) := hide (HNe.out.app hat8 (fun g h => by have := (World.ownsRow.lt HO2.out _ h).2; omega))
                    have e8_0 : w8.cell? ⟨w6.heap.size, 0, none⟩ = some (.int .i64 ver) := HX8.out.cell 0
                    have e8_1 : w8.cell? ⟨w6.heap.size, 1, none⟩ = some (.int .i64 fr) := HX8.out.cell 1
                    have e8_2 : w8.cell? ⟨w6.heap.size, 2, none⟩ = some (.int .i64 ti) := HX8.out.cell 2
                    have e8_3 : w8.cell? ⟨w6.heap.size, 3, none⟩ = some (.int .i64 lo) := HX8.out.cell 3
                    have e8_4 : w8.cell? ⟨w6.heap.size, 4, none⟩ = some (.int .i64 hi) := HX8.out.cell 4
                    have e8_5 : w8.cell? ⟨w6.heap.size, 5, none⟩ = some (.slice A2 n2 c2) := HX8.out.cell 5
                    have e8_6 : w8.cell? ⟨w6.heap.size, 6, none⟩ = some (.int .i64 lev) := HX8.out.cell 6
                    have p8_0 : w8.cell? ⟨w0.heap.size, 0, none⟩ = some (.int .i64 pz) := HP8.out.cell 0
                    have p8_1 : w8.cell? ⟨w0.heap.size, 1, none⟩ = some (.int .i64 pl) := HP8.out.cell 1
                    have p8_2 : w8.cell? ⟨w0.heap.size, 2, none⟩ = some (.int .i64 ph) := HP8.out.cell 2
                    have p8_3 : w8.cell? ⟨w0.heap.size, 3, none⟩ = some (.int .i64 pt) := HP8.out.cell 3
                    clear hown8 hb8 hg8 hat8)
                 | (refine wpList_load_g 31 (.tmp 12) rfl rfl w6.heap.size rfl _ _ HX8.out _ Try.underlying31 rfl (by kernel_rfl) ?_)
                 | (at_builtin
                    refine wpList_app_lit ei_bul rfl (.tmp 88) (.tmp 90) rfl w4.heap.size (.slice Ac k cc) k (flatB T2 z2) rfl HO28.out 1 rfl rfl (by simp [Value.oneCell']) (by simp only [maxLen]; omega) (by omega) (by omega) ?_
                    intro v9 w9 hown9 hb9 hg9 hat9
                    have HO29 : Hid (w9.ownsRow w4.heap.size 31 7 v9 (k + 1) (flatB (T2 ++ [⟨ver, fr, ti, lo, hi, lev, zs⟩]) (z2 ++ [.slice A2 n2 c2]))) := by
                      show World.ownsRow _ _ _ _ _ _ _
                      rw [flatB_snoc _ _ (by rw [HCl.out, HZ2.out])]
                      exact hown9
                    have HO19 := Lib.hid (kept_row hg9 HO18.out (HNe8.out.left))
                    have HL9 := Lib.hid (HL8.out.trans hb9)
                    have HNe9 : Hid (NE v8 v9) := hide ((HNe8.out.symm.app hat9 (fun g h => by have := (World.ownsRow.lt HO18.out _ h).2; omega)).symm)
                    clear hown9 hb9 hg9 hat9))
              go_roundw
              case rel => exact ⟨k + 1, z1 ++ [.slice A2 n2 c2], z2 ++ [.slice A2 n2 c2], by omega, by go_num, by rw [HSv.out], by rw [HT1.out]; simp [HN1.out, HZ1.out], by simp [HZ2.out], by rw [HT1.out]; simpa [HN1.out] using HO19.out, by rw [HT1.out]; simpa using rowsV_snoc HQ1.out HRow.out, by rw [HCh.out]; exact HO29.out, by rw [HCh.out]; simpa using rowsV_snoc HQ2.out HRow.out, HNe9.out, HL9.out⟩
              case measure => simp [intOf]; omega
            · skip
              have hcB : countB v pt ⟨ver, fr, ti, lo, hi, lev, zs⟩ = false := by unfold countB; rw [decide_eq_false hv]; rfl
              have HT1 := Lib.hid (HLn.out hv)
              rw [other_no hv] at HCh
              have HSv : Hid (levF (countB v pt) 0 (l.take (k + 1)) = wv) := hide (HSn.out.trans (by rw [hcB]; simp))
              clear hcB
              clear hh
              go_wp2_with
                (first
                 | (refine wpList_load_at 31 (.tmp 38) rfl rfl (ad.add (k * 7)) rfl [.int .i64 ver, .int .i64 fr, .int .i64 ti, .int .i64 lo, .int .i64 hi, .slice A2 n2 c2, .int .i64 lev] HCs.out _ Try.underlying31 rfl (by kernel_rfl) ?_)
                 | (refine wpList_store_blk rfl 31 (.tmp 12) (.tmp 39) rfl w6.heap.size #[.int .i64 ver, .int .i64 fr, .int .i64 ti, .int .i64 lo, .int .i64 hi, .slice A2 n2 c2, .int .i64 lev] rfl rfl _ _ (Blk.new w6 31 #[.int .i64 0, .int .i64 0, .int .i64 0, .int .i64 0, .int .i64 0, .slice none 0 0, .int .i64 0]) (by kernel_rfl) rfl (by simp [Value.oneCell']) ?_
                    intro w7 hx7 hon7
                    have HX7 := Lib.hid hx7
                    have hb7 := hon7.below (below_new w6 (.cells #[.int .i64 0, .int .i64 0, .int .i64 0, .int .i64 0, .int .i64 0, .slice none 0 0, .int .i64 0] 31)) (Nat.le_refl _)
                    have HL7 := Lib.hid (HL6.out.trans (hb7.mono hsz))
                    have HO17 := Lib.hid (hon7.own (HO1.out.alloc _) (fun h => by have := (World.ownsRow.lt HO1.out _ h).2; omega))
                    have HO27 := Lib.hid (hon7.own (HO2.out.alloc _) (fun h => by have := (World.ownsRow.lt HO2.out _ h).2; omega))
                    have HP7 := Lib.hid (HP6.out.below hb7 hlt6)
                    have hs7 : w6.heap.size < w7.heap.size := hx7.lt
                    have e7_0 : w7.cell? ⟨w6.heap.size, 0, none⟩ = some (.int .i64 ver) := HX7.out.cell 0
                    have e7_1 : w7.cell? ⟨w6.heap.size, 1, none⟩ = some (.int .i64 fr) := HX7.out.cell 1
                    have e7_2 : w7.cell? ⟨w6.heap.size, 2, none⟩ = some (.int .i64 ti) := HX7.out.cell 2
                    have e7_3 : w7.cell? ⟨w6.heap.size, 3, none⟩ = some (.int .i64 lo) := HX7.out.cell 3
                    have e7_4 : w7.cell? ⟨w6.heap.size, 4, none⟩ = some (.int .i64 hi) := HX7.out.cell 4
                    have e7_5 : w7.cell? ⟨w6.heap.size, 5, none⟩ = some (.slice A2 n2 c2) := HX7.out.cell 5
                    have e7_6 : w7.cell? ⟨w6.heap.size, 6, none⟩ = some (.int .i64 lev) := HX7.out.cell 6
                    have p7_0 : w7.cell? ⟨w0.heap.size, 0, none⟩ = some (.int .i64 pz) := HP7.out.cell 0
                    have p7_1 : w7.cell? ⟨w0.heap.size, 1, none⟩ = some (.int .i64 pl) := HP7.out.cell 1
                    have p7_2 : w7.cell? ⟨w0.heap.size, 2, none⟩ = some (.int .i64 ph) := HP7.out.cell 2
                    have p7_3 : w7.cell? ⟨w0.heap.size, 3, none⟩ = some (.int .i64 pt) := HP7.out.cell 3
                    clear hx7 hon7 hb7)
                 | (refine wpList_store_field 3 (.tmp 87) (.tmp 86) rfl rfl w6.heap.size 6 (.int .i64 other) rfl rfl _ _ HX7.out (by kernel_rfl) (by simp) rfl rfl ?_
                    intro w8 hx8 hon8
                    have HX8 : Hid (Blk w8 w6.heap.size 31 #[.int .i64 ver, .int .i64 fr, .int .i64 ti, .int .i64 lo, .int .i64 hi, .slice A2 n2 c2, .int .i64 other]) := hide hx8
                    have HO18 := Lib.hid (hon8.own HO17.out (fun h => by have := (World.ownsRow.lt HO1.out _ h).2; omega))
                    have HO28 := Lib.hid (hon8.own HO27.out (fun h => by have := (World.ownsRow.lt HO2.out _ h).2; omega))
                    have HL8 := Lib.hid (hon8.below HL7.out hsz)
                    have hs8 := Nat.le_of_eq hon8.size.symm
                    have HNe8 := Lib.hid HNe.out
                    clear hx8 hon8)
                 | (refine wpList_load_g 31 (.tmp 12) rfl rfl w6.heap.size rfl _ _ HX8.out _ Try.underlying31 rfl (by kernel_rfl) ?_)
                 | (at_builtin
                    refine wpList_app_lit ei_bul rfl (.tmp 88) (.tmp 90) rfl w4.heap.size (.slice Ac k cc) k (flatB T2 z2) rfl HO28.out 1 rfl rfl (by simp [Value.oneCell']) (by simp only [maxLen]; omega) (by omega) (by omega) ?_
                    intro v9 w9 hown9 hb9 hg9 hat9
                    have HO29 : Hid (w9.ownsRow w4.heap.size 31 7 v9 (k + 1) (flatB (T2 ++ [⟨ver, fr, ti, lo, hi, other, zs⟩]) (z2 ++ [.slice A2 n2 c2]))) := by
                      show World.ownsRow _ _ _ _ _ _ _
                      rw [flatB_snoc _ _ (by rw [HCl.out, HZ2.out])]
                      exact hown9
                    have HO19 := Lib.hid (kept_row hg9 HO18.out (HNe8.out.left))
                    have HL9 := Lib.hid (HL8.out.trans hb9)
                    have HNe9 : Hid (NE (.slice Al n1 cl) v9) := hide ((HNe8.out.symm.app hat9 (fun g h => by have := (World.ownsRow.lt HO18.out _ h).2; omega)).symm)
                    clear hown9 hb9 hg9 hat9))
              go_roundw
              case rel => exact ⟨k + 1, z1, z2 ++ [.slice A2 n2 c2], by omega, by go_num, by rw [HSv.out], by rw [HT1.out]; simp [HN1.out, HZ1.out], by simp [HZ2.out], by rw [HT1.out]; simpa [HN1.out] using HO19.out, by rw [HT1.out]; exact HQ1.out, by rw [HCh.out]; exact HO29.out, by rw [HCh.out]; simpa using rowsV_snoc HQ2.out HRow.out, HNe9.out, HL9.out⟩
              case measure => simp [intOf]; omega
          · skip
            have hh : hasB ⟨ver, fr, ti, lo, hi, lev, zs⟩ pt = false := by unfold hasB; simp only [Bool.and_eq_false_iff, decide_eq_false_iff_not]; omega
            by_cases hv : ver = v
            · skip
              have hcB : countB v pt ⟨ver, fr, ti, lo, hi, lev, zs⟩ = false := by unfold countB; rw [decide_eq_true hv]; exact hh
              have HT1 := Lib.hid (HLy.out hv)
              rw [other_yes hv] at HCh
              have HSv : Hid (levF (countB v pt) 0 (l.take (k + 1)) = wv) := hide (HSn.out.trans (by rw [hcB]; simp))
              clear hcB
              clear hh
              subst hv
              go_wp2_with
                (first
                 | (refine wpList_load_at 31 (.tmp 38) rfl rfl (ad.add (k * 7)) rfl [.int .i64 ver, .int .i64 fr, .int .i64 ti, .int .i64 lo, .int .i64 hi, .slice A2 n2 c2, .int .i64 lev] HCs.out _ Try.underlying31 rfl (by kernel_rfl) ?_)
                 | (refine wpList_store_blk rfl 31 (.tmp 12) (.tmp 39) rfl w6.heap.size #[.int .i64 ver, .int .i64 fr, .int .i64 ti, .int .i64 lo, .int .i64 hi, .slice A2 n2 c2, .int .i64 lev] rfl rfl _ _ (Blk.new w6 31 #[.int .i64 0, .int .i64 0, .int .i64 0, .int .i64 0, .int .i64 0, .slice none 0 0, .int .i64 0]) (by kernel_rfl) rfl (by simp [Value.oneCell']) ?_
                    intro w7 hx7 hon7
                    have HX7 := Lib.hid hx7
                    have hb7 := hon7.below (below_new w6 (.cells #[.int .i64 0, .int .i64 0, .int .i64 0, .int .i64 0, .int .i64 0, .slice none 0 0, .int .i64 0] 31)) (Nat.le_refl _)
                    have HL7 := Lib.hid (HL6.out.trans (hb7.mono hsz))
                    have HO17 := Lib.hid (hon7.own (HO1.out.alloc _) (fun h => by have := (World.ownsRow.lt HO1.out _ h).2; omega))
                    have HO27 := Lib.hid (hon7.own (HO2.out.alloc _) (fun h => by have := (World.ownsRow.lt HO2.out _ h).2; omega))
                    have HP7 := Lib.hid (HP6.out.below hb7 hlt6)
                    have hs7 : w6.heap.size < w7.heap.size := hx7.lt
                    have e7_0 : w7.cell? ⟨w6.heap.size, 0, none⟩ = some (.int .i64 ver) := HX7.out.cell 0
                    have e7_1 : w7.cell? ⟨w6.heap.size, 1, none⟩ = some (.int .i64 fr) := HX7.out.cell 1
                    have e7_2 : w7.cell? ⟨w6.heap.size, 2, none⟩ = some (.int .i64 ti) := HX7.out.cell 2
                    have e7_3 : w7.cell? ⟨w6.heap.size, 3, none⟩ = some (.int .i64 lo) := HX7.out.cell 3
                    have e7_4 : w7.cell? ⟨w6.heap.size, 4, none⟩ = some (.int .i64 hi) := HX7.out.cell 4
                    have e7_5 : w7.cell? ⟨w6.heap.size, 5, none⟩ = some (.slice A2 n2 c2) := HX7.out.cell 5
                    have e7_6 : w7.cell? ⟨w6.heap.size, 6, none⟩ = some (.int .i64 lev) := HX7.out.cell 6
                    have p7_0 : w7.cell? ⟨w0.heap.size, 0, none⟩ = some (.int .i64 pz) := HP7.out.cell 0
                    have p7_1 : w7.cell? ⟨w0.heap.size, 1, none⟩ = some (.int .i64 pl) := HP7.out.cell 1
                    have p7_2 : w7.cell? ⟨w0.heap.size, 2, none⟩ = some (.int .i64 ph) := HP7.out.cell 2
                    have p7_3 : w7.cell? ⟨w0.heap.size, 3, none⟩ = some (.int .i64 pt) := HP7.out.cell 3
                    clear hx7 hon7 hb7)
                 | (at_builtin
                    refine wpList_app_lit ei_bul rfl (.tmp 64) (.tmp 66) rfl w4.heap.size (.slice Al n1 cl) n1 (flatB T1 z1) rfl HO17.out 1 rfl rfl (by simp [Value.oneCell']) (by simp only [maxLen]; omega) (by omega) (by omega) ?_
                    intro v8 w8 hown8 hb8 hg8 hat8
                    have HO18 : Hid (w8.ownsRow w4.heap.size 31 7 v8 (n1 + 1) (flatB (T1 ++ [⟨ver, fr, ti, lo, hi, lev, zs⟩]) (z1 ++ [.slice A2 n2 c2]))) := by
                      show World.ownsRow _ _ _ _ _ _ _
                      rw [flatB_snoc _ _ (by rw [← HZ1.out, HN1.out])]
                      exact hown8
                    have HO28 := Lib.hid (kept_row hg8 HO27.out (HNe.out.symm.left))
                    have HX8 := Lib.hid (kept_blk hg8 HX7.out (fun h => by have := (World.ownsRow.lt HO1.out _ h).2; omega))
                    have HO28 := Lib.hid (kept_row hg8 HO27.out (HNe.out.symm.left))
                    have HX8 := Lib.hid (kept_blk hg8 HX7.out (fun h => by have := (World.ownsRow.lt HO1.out _ h).2; omega))
                    have HP8 := Lib.hid (HP7.out.below hb8 hlt4)
                    have HL8 := Lib.hid (HL7.out.trans hb8)
                    have hs8 := hb8.size
                    have HNe8 : Hid (NE v8 (.slice Ac k cc)) := hide (HNe.out.app hat8 (fun g h => by have := (World.ownsRow.lt HO2.out _ h).2; omega))
                    have e8_0 : w8.cell? ⟨w6.heap.size, 0, none⟩ = some (.int .i64 ver) := HX8.out.cell 0
                    have e8_1 : w8.cell? ⟨w6.heap.size, 1, none⟩ = some (.int .i64 fr) := HX8.out.cell 1
                    have e8_2 : w8.cell? ⟨w6.heap.size, 2, none⟩ = some (.int .i64 ti) := HX8.out.cell 2
                    have e8_3 : w8.cell? ⟨w6.heap.size, 3, none⟩ = some (.int .i64 lo) := HX8.out.cell 3
                    have e8_4 : w8.cell? ⟨w6.heap.size, 4, none⟩ = some (.int .i64 hi) := HX8.out.cell 4
                    have e8_5 : w8.cell? ⟨w6.heap.size, 5, none⟩ = some (.slice A2 n2 c2) := HX8.out.cell 5
                    have e8_6 : w8.cell? ⟨w6.heap.size, 6, none⟩ = some (.int .i64 lev) := HX8.out.cell 6
                    have p8_0 : w8.cell? ⟨w0.heap.size, 0, none⟩ = some (.int .i64 pz) := HP8.out.cell 0
                    have p8_1 : w8.cell? ⟨w0.heap.size, 1, none⟩ = some (.int .i64 pl) := HP8.out.cell 1
                    have p8_2 : w8.cell? ⟨w0.heap.size, 2, none⟩ = some (.int .i64 ph) := HP8.out.cell 2
                    have p8_3 : w8.cell? ⟨w0.heap.size, 3, none⟩ = some (.int .i64 pt) := HP8.out.cell 3
                    clear hown8 hb8 hg8 hat8)
                 | (refine wpList_load_g 31 (.tmp 12) rfl rfl w6.heap.size rfl _ _ HX8.out _ Try.underlying31 rfl (by kernel_rfl) ?_)
                 | (at_builtin
                    refine wpList_app_lit ei_bul rfl (.tmp 88) (.tmp 90) rfl w4.heap.size (.slice Ac k cc) k (flatB T2 z2) rfl HO28.out 1 rfl rfl (by simp [Value.oneCell']) (by simp only [maxLen]; omega) (by omega) (by omega) ?_
                    intro v9 w9 hown9 hb9 hg9 hat9
                    have HO29 : Hid (w9.ownsRow w4.heap.size 31 7 v9 (k + 1) (flatB (T2 ++ [⟨ver, fr, ti, lo, hi, lev, zs⟩]) (z2 ++ [.slice A2 n2 c2]))) := by
                      show World.ownsRow _ _ _ _ _ _ _
                      rw [flatB_snoc _ _ (by rw [HCl.out, HZ2.out])]
                      exact hown9
                    have HO19 := Lib.hid (kept_row hg9 HO18.out (HNe8.out.left))
                    have HL9 := Lib.hid (HL8.out.trans hb9)
                    have HNe9 : Hid (NE v8 v9) := hide ((HNe8.out.symm.app hat9 (fun g h => by have := (World.ownsRow.lt HO18.out _ h).2; omega)).symm)
                    clear hown9 hb9 hg9 hat9))
              go_roundw
              case rel => exact ⟨k + 1, z1 ++ [.slice A2 n2 c2], z2 ++ [.slice A2 n2 c2], by omega, by go_num, by rw [HSv.out], by rw [HT1.out]; simp [HN1.out, HZ1.out], by simp [HZ2.out], by rw [HT1.out]; simpa [HN1.out] using HO19.out, by rw [HT1.out]; simpa using rowsV_snoc HQ1.out HRow.out, by rw [HCh.out]; exact HO29.out, by rw [HCh.out]; simpa using rowsV_snoc HQ2.out HRow.out, HNe9.out, HL9.out⟩
              case measure => simp [intOf]; omega
            · skip
              have hcB : countB v pt ⟨ver, fr, ti, lo, hi, lev, zs⟩ = false := by unfold countB; rw [decide_eq_false hv]; rfl
              have HT1 := Lib.hid (HLn.out hv)
              rw [other_no hv] at HCh
              have HSv : Hid (levF (countB v pt) 0 (l.take (k + 1)) = wv) := hide (HSn.out.trans (by rw [hcB]; simp))
              clear hcB
              clear hh
              go_wp2_with
                (first
                 | (refine wpList_load_at 31 (.tmp 38) rfl rfl (ad.add (k * 7)) rfl [.int .i64 ver, .int .i64 fr, .int .i64 ti, .int .i64 lo, .int .i64 hi, .slice A2 n2 c2, .int .i64 lev] HCs.out _ Try.underlying31 rfl (by kernel_rfl) ?_)
                 | (refine wpList_store_blk rfl 31 (.tmp 12) (.tmp 39) rfl w6.heap.size #[.int .i64 ver, .int .i64 fr, .int .i64 ti, .int .i64 lo, .int .i64 hi, .slice A2 n2 c2, .int .i64 lev] rfl rfl _ _ (Blk.new w6 31 #[.int .i64 0, .int .i64 0, .int .i64 0, .int .i64 0, .int .i64 0, .slice none 0 0, .int .i64 0]) (by kernel_rfl) rfl (by simp [Value.oneCell']) ?_
                    intro w7 hx7 hon7
                    have HX7 := Lib.hid hx7
                    have hb7 := hon7.below (below_new w6 (.cells #[.int .i64 0, .int .i64 0, .int .i64 0, .int .i64 0, .int .i64 0, .slice none 0 0, .int .i64 0] 31)) (Nat.le_refl _)
                    have HL7 := Lib.hid (HL6.out.trans (hb7.mono hsz))
                    have HO17 := Lib.hid (hon7.own (HO1.out.alloc _) (fun h => by have := (World.ownsRow.lt HO1.out _ h).2; omega))
                    have HO27 := Lib.hid (hon7.own (HO2.out.alloc _) (fun h => by have := (World.ownsRow.lt HO2.out _ h).2; omega))
                    have HP7 := Lib.hid (HP6.out.below hb7 hlt6)
                    have hs7 : w6.heap.size < w7.heap.size := hx7.lt
                    have e7_0 : w7.cell? ⟨w6.heap.size, 0, none⟩ = some (.int .i64 ver) := HX7.out.cell 0
                    have e7_1 : w7.cell? ⟨w6.heap.size, 1, none⟩ = some (.int .i64 fr) := HX7.out.cell 1
                    have e7_2 : w7.cell? ⟨w6.heap.size, 2, none⟩ = some (.int .i64 ti) := HX7.out.cell 2
                    have e7_3 : w7.cell? ⟨w6.heap.size, 3, none⟩ = some (.int .i64 lo) := HX7.out.cell 3
                    have e7_4 : w7.cell? ⟨w6.heap.size, 4, none⟩ = some (.int .i64 hi) := HX7.out.cell 4
                    have e7_5 : w7.cell? ⟨w6.heap.size, 5, none⟩ = some (.slice A2 n2 c2) := HX7.out.cell 5
                    have e7_6 : w7.cell? ⟨w6.heap.size, 6, none⟩ = some (.int .i64 lev) := HX7.out.cell 6
                    have p7_0 : w7.cell? ⟨w0.heap.size, 0, none⟩ = some (.int .i64 pz) := HP7.out.cell 0
                    have p7_1 : w7.cell? ⟨w0.heap.size, 1, none⟩ = some (.int .i64 pl) := HP7.out.cell 1
                    have p7_2 : w7.cell? ⟨w0.heap.size, 2, none⟩ = some (.int .i64 ph) := HP7.out.cell 2
                    have p7_3 : w7.cell? ⟨w0.heap.size, 3, none⟩ = some (.int .i64 pt) := HP7.out.cell 3
                    clear hx7 hon7 hb7)
                 | (refine wpList_store_field 3 (.tmp 87) (.tmp 86) rfl rfl w6.heap.size 6 (.int .i64 other) rfl rfl _ _ HX7.out (by kernel_rfl) (by simp) rfl rfl ?_
                    intro w8 hx8 hon8
                    have HX8 : Hid (Blk w8 w6.heap.size 31 #[.int .i64 ver, .int .i64 fr, .int .i64 ti, .int .i64 lo, .int .i64 hi, .slice A2 n2 c2, .int .i64 other]) := hide hx8
                    have HO18 := Lib.hid (hon8.own HO17.out (fun h => by have := (World.ownsRow.lt HO1.out _ h).2; omega))
                    have HO28 := Lib.hid (hon8.own HO27.out (fun h => by have := (World.ownsRow.lt HO2.out _ h).2; omega))
                    have HL8 := Lib.hid (hon8.below HL7.out hsz)
                    have hs8 := Nat.le_of_eq hon8.size.symm
                    have HNe8 := Lib.hid HNe.out
                    clear hx8 hon8)
                 | (refine wpList_load_g 31 (.tmp 12) rfl rfl w6.heap.size rfl _ _ HX8.out _ Try.underlying31 rfl (by kernel_rfl) ?_)
                 | (at_builtin
                    refine wpList_app_lit ei_bul rfl (.tmp 88) (.tmp 90) rfl w4.heap.size (.slice Ac k cc) k (flatB T2 z2) rfl HO28.out 1 rfl rfl (by simp [Value.oneCell']) (by simp only [maxLen]; omega) (by omega) (by omega) ?_
                    intro v9 w9 hown9 hb9 hg9 hat9
                    have HO29 : Hid (w9.ownsRow w4.heap.size 31 7 v9 (k + 1) (flatB (T2 ++ [⟨ver, fr, ti, lo, hi, other, zs⟩]) (z2 ++ [.slice A2 n2 c2]))) := by
                      show World.ownsRow _ _ _ _ _ _ _
                      rw [flatB_snoc _ _ (by rw [HCl.out, HZ2.out])]
                      exact hown9
                    have HO19 := Lib.hid (kept_row hg9 HO18.out (HNe8.out.left))
                    have HL9 := Lib.hid (HL8.out.trans hb9)
                    have HNe9 : Hid (NE (.slice Al n1 cl) v9) := hide ((HNe8.out.symm.app hat9 (fun g h => by have := (World.ownsRow.lt HO18.out _ h).2; omega)).symm)
                    clear hown9 hb9 hg9 hat9))
              go_roundw
              case rel => exact ⟨k + 1, z1, z2 ++ [.slice A2 n2 c2], by omega, by go_num, by rw [HSv.out], by rw [HT1.out]; simp [HN1.out, HZ1.out], by simp [HZ2.out], by rw [HT1.out]; simpa [HN1.out] using HO19.out, by rw [HT1.out]; exact HQ1.out, by rw [HCh.out]; exact HO29.out, by rw [HCh.out]; simpa using rowsV_snoc HQ2.out HRow.out, HNe9.out, HL9.out⟩
              case measure => simp [intOf]; omega
        · skip
          have hh : hasB ⟨ver, fr, ti, lo, hi, lev, zs⟩ pt = false := by unfold hasB; simp only [Bool.and_eq_false_iff, decide_eq_false_iff_not]; omega
          by_cases hv : ver = v
          · skip
            have hcB : countB v pt ⟨ver, fr, ti, lo, hi, lev, zs⟩ = false := by unfold countB; rw [decide_eq_true hv]; exact hh
            have HT1 := Lib.hid (HLy.out hv)
            rw [other_yes hv] at HCh
            have HSv : Hid (levF (countB v pt) 0 (l.take (k + 1)) = wv) := hide (HSn.out.trans (by rw [hcB]; simp))
            clear hcB
            clear hh
            subst hv
            go_wp2_with
              (first
               | (refine wpList_load_at 31 (.tmp 38) rfl rfl (ad.add (k * 7)) rfl [.int .i64 ver, .int .i64 fr, .int .i64 ti, .int .i64 lo, .int .i64 hi, .slice A2 n2 c2, .int .i64 lev] HCs.out _ Try.underlying31 rfl (by kernel_rfl) ?_)
               | (refine wpList_store_blk rfl 31 (.tmp 12) (.tmp 39) rfl w6.heap.size #[.int .i64 ver, .int .i64 fr, .int .i64 ti, .int .i64 lo, .int .i64 hi, .slice A2 n2 c2, .int .i64 lev] rfl rfl _ _ (Blk.new w6 31 #[.int .i64 0, .int .i64 0, .int .i64 0, .int .i64 0, .int .i64 0, .slice none 0 0, .int .i64 0]) (by kernel_rfl) rfl (by simp [Value.oneCell']) ?_
                  intro w7 hx7 hon7
                  have HX7 := Lib.hid hx7
                  have hb7 := hon7.below (below_new w6 (.cells #[.int .i64 0, .int .i64 0, .int .i64 0, .int .i64 0, .int .i64 0, .slice none 0 0, .int .i64 0] 31)) (Nat.le_refl _)
                  have HL7 := Lib.hid (HL6.out.trans (hb7.mono hsz))
                  have HO17 := Lib.hid (hon7.own (HO1.out.alloc _) (fun h => by have := (World.ownsRow.lt HO1.out _ h).2; omega))
                  have HO27 := Lib.hid (hon7.own (HO2.out.alloc _) (fun h => by have := (World.ownsRow.lt HO2.out _ h).2; omega))
                  have HP7 := Lib.hid (HP6.out.below hb7 hlt6)
                  have hs7 : w6.heap.size < w7.heap.size := hx7.lt
                  have e7_0 : w7.cell? ⟨w6.heap.size, 0, none⟩ = some (.int .i64 ver) := HX7.out.cell 0
                  have e7_1 : w7.cell? ⟨w6.heap.size, 1, none⟩ = some (.int .i64 fr) := HX7.out.cell 1
                  have e7_2 : w7.cell? ⟨w6.heap.size, 2, none⟩ = some (.int .i64 ti) := HX7.out.cell 2
                  have e7_3 : w7.cell? ⟨w6.heap.size, 3, none⟩ = some (.int .i64 lo) := HX7.out.cell 3
                  have e7_4 : w7.cell? ⟨w6.heap.size, 4, none⟩ = some (.int .i64 hi) := HX7.out.cell 4
                  have e7_5 : w7.cell? ⟨w6.heap.size, 5, none⟩ = some (.slice A2 n2 c2) := HX7.out.cell 5
                  have e7_6 : w7.cell? ⟨w6.heap.size, 6, none⟩ = some (.int .i64 lev) := HX7.out.cell 6
                  have p7_0 : w7.cell? ⟨w0.heap.size, 0, none⟩ = some (.int .i64 pz) := HP7.out.cell 0
                  have p7_1 : w7.cell? ⟨w0.heap.size, 1, none⟩ = some (.int .i64 pl) := HP7.out.cell 1
                  have p7_2 : w7.cell? ⟨w0.heap.size, 2, none⟩ = some (.int .i64 ph) := HP7.out.cell 2
                  have p7_3 : w7.cell? ⟨w0.heap.size, 3, none⟩ = some (.int .i64 pt) := HP7.out.cell 3
                  clear hx7 hon7 hb7)
               | (at_builtin
                  refine wpList_app_lit ei_bul rfl (.tmp 64) (.tmp 66) rfl w4.heap.size (.slice Al n1 cl) n1 (flatB T1 z1) rfl HO17.out 1 rfl rfl (by simp [Value.oneCell']) (by simp only [maxLen]; omega) (by omega) (by omega) ?_
                  intro v8 w8 hown8 hb8 hg8 hat8
                  have HO18 : Hid (w8.ownsRow w4.heap.size 31 7 v8 (n1 + 1) (flatB (T1 ++ [⟨ver, fr, ti, lo, hi, lev, zs⟩]) (z1 ++ [.slice A2 n2 c2]))) := by
                    show World.ownsRow _ _ _ _ _ _ _
                    rw [flatB_snoc _ _ (by rw [← HZ1.out, HN1.out])]
                    exact hown8
                  have HO28 := Lib.hid (kept_row hg8 HO27.out (HNe.out.symm.left))
                  have HX8 := Lib.hid (kept_blk hg8 HX7.out (fun h => by have := (World.ownsRow.lt HO1.out _ h).2; omega))
                  have HO28 := Lib.hid (kept_row hg8 HO27.out (HNe.out.symm.left))
                  have HX8 := Lib.hid (kept_blk hg8 HX7.out (fun h => by have := (World.ownsRow.lt HO1.out _ h).2; omega))
                  have HP8 := Lib.hid (HP7.out.below hb8 hlt4)
                  have HL8 := Lib.hid (HL7.out.trans hb8)
                  have hs8 := hb8.size
                  have HNe8 : Hid (NE v8 (.slice Ac k cc)) := hide (HNe.out.app hat8 (fun g h => by have := (World.ownsRow.lt HO2.out _ h).2; omega))
                  have e8_0 : w8.cell? ⟨w6.heap.size, 0, none⟩ = some (.int .i64 ver) := HX8.out.cell 0
                  have e8_1 : w8.cell? ⟨w6.heap.size, 1, none⟩ = some (.int .i64 fr) := HX8.out.cell 1
                  have e8_2 : w8.cell? ⟨w6.heap.size, 2, none⟩ = some (.int .i64 ti) := HX8.out.cell 2
                  have e8_3 : w8.cell? ⟨w6.heap.size, 3, none⟩ = some (.int .i64 lo) := HX8.out.cell 3
                  have e8_4 : w8.cell? ⟨w6.heap.size, 4, none⟩ = some (.int .i64 hi) := HX8.out.cell 4
                  have e8_5 : w8.cell? ⟨w6.heap.size, 5, none⟩ = some (.slice A2 n2 c2) := HX8.out.cell 5
                  have e8_6 : w8.cell? ⟨w6.heap.size, 6, none⟩ = some (.int .i64 lev) := HX8.out.cell 6
                  have p8_0 : w8.cell? ⟨w0.heap.size, 0, none⟩ = some (.int .i64 pz) := HP8.out.cell 0
                  have p8_1 : w8.cell? ⟨w0.heap.size, 1, none⟩ = some (.int .i64 pl) := HP8.out.cell 1
                  have p8_2 : w8.cell? ⟨w0.heap.size, 2, none⟩ = some (.int .i64 ph) := HP8.out.cell 2
                  have p8_3 : w8.cell? ⟨w0.heap.size, 3, none⟩ = some (.int .i64 pt) := HP8.out.cell 3
                  clear hown8 hb8 hg8 hat8)
               | (refine wpList_load_g 31 (.tmp 12) rfl rfl w6.heap.size rfl _ _ HX8.out _ Try.underlying31 rfl (by kernel_rfl) ?_)
               | (at_builtin
                  refine wpList_app_lit ei_bul rfl (.tmp 88) (.tmp 90) rfl w4.heap.size (.slice Ac k cc) k (flatB T2 z2) rfl HO28.out 1 rfl rfl (by simp [Value.oneCell']) (by simp only [maxLen]; omega) (by omega) (by omega) ?_
                  intro v9 w9 hown9 hb9 hg9 hat9
                  have HO29 : Hid (w9.ownsRow w4.heap.size 31 7 v9 (k + 1) (flatB (T2 ++ [⟨ver, fr, ti, lo, hi, lev, zs⟩]) (z2 ++ [.slice A2 n2 c2]))) := by
                    show World.ownsRow _ _ _ _ _ _ _
                    rw [flatB_snoc _ _ (by rw [HCl.out, HZ2.out])]
                    exact hown9
                  have HO19 := Lib.hid (kept_row hg9 HO18.out (HNe8.out.left))
                  have HL9 := Lib.hid (HL8.out.trans hb9)
                  have HNe9 : Hid (NE v8 v9) := hide ((HNe8.out.symm.app hat9 (fun g h => by have := (World.ownsRow.lt HO18.out _ h).2; omega)).symm)
                  clear hown9 hb9 hg9 hat9))
            go_roundw
            case rel => exact ⟨k + 1, z1 ++ [.slice A2 n2 c2], z2 ++ [.slice A2 n2 c2], by omega, by go_num, by rw [HSv.out], by rw [HT1.out]; simp [HN1.out, HZ1.out], by simp [HZ2.out], by rw [HT1.out]; simpa [HN1.out] using HO19.out, by rw [HT1.out]; simpa using rowsV_snoc HQ1.out HRow.out, by rw [HCh.out]; exact HO29.out, by rw [HCh.out]; simpa using rowsV_snoc HQ2.out HRow.out, HNe9.out, HL9.out⟩
            case measure => simp [intOf]; omega
          · skip
            have hcB : countB v pt ⟨ver, fr, ti, lo, hi, lev, zs⟩ = false := by unfold countB; rw [decide_eq_false hv]; rfl
            have HT1 := Lib.hid (HLn.out hv)
            rw [other_no hv] at HCh
            have HSv : Hid (levF (countB v pt) 0 (l.take (k + 1)) = wv) := hide (HSn.out.trans (by rw [hcB]; simp))
            clear hcB
            clear hh
            go_wp2_with
              (first
               | (refine wpList_load_at 31 (.tmp 38) rfl rfl (ad.add (k * 7)) rfl [.int .i64 ver, .int .i64 fr, .int .i64 ti, .int .i64 lo, .int .i64 hi, .slice A2 n2 c2, .int .i64 lev] HCs.out _ Try.underlying31 rfl (by kernel_rfl) ?_)
               | (refine wpList_store_blk rfl 31 (.tmp 12) (.tmp 39) rfl w6.heap.size #[.int .i64 ver, .int .i64 fr, .int .i64 ti, .int .i64 lo, .int .i64 hi, .slice A2 n2 c2, .int .i64 lev] rfl rfl _ _ (Blk.new w6 31 #[.int .i64 0, .int .i64 0, .int .i64 0, .int .i64 0, .int .i64 0, .slice none 0 0, .int .i64 0]) (by kernel_rfl) rfl (by simp [Value.oneCell']) ?_
                  intro w7 hx7 hon7
                  have HX7 := Lib.hid hx7
                  have hb7 := hon7.below (below_new w6 (.cells #[.int .i64 0, .int .i64 0, .int .i64 0, .int .i64 0, .int .i64 0, .slice none 0 0, .int .i64 0] 31)) (Nat.le_refl _)
                  have HL7 := Lib.hid (HL6.out.trans (hb7.mono hsz))
                  have HO17 := Lib.hid (hon7.own (HO1.out.alloc _) (fun h => by have := (World.ownsRow.lt HO1.out _ h).2; omega))
                  have HO27 := Lib.hid (hon7.own (HO2.out.alloc _) (fun h => by have := (World.ownsRow.lt HO2.out _ h).2; omega))
                  have HP7 := Lib.hid (HP6.out.below hb7 hlt6)
                  have hs7 : w6.heap.size < w7.heap.size := hx7.lt
                  have e7_0 : w7.cell? ⟨w6.heap.size, 0, none⟩ = some (.int .i64 ver) := HX7.out.cell 0
                  have e7_1 : w7.cell? ⟨w6.heap.size, 1, none⟩ = some (.int .i64 fr) := HX7.out.cell 1
                  have e7_2 : w7.cell? ⟨w6.heap.size, 2, none⟩ = some (.int .i64 ti) := HX7.out.cell 2
                  have e7_3 : w7.cell? ⟨w6.heap.size, 3, none⟩ = some (.int .i64 lo) := HX7.out.cell 3
                  have e7_4 : w7.cell? ⟨w6.heap.size, 4, none⟩ = some (.int .i64 hi) := HX7.out.cell 4
                  have e7_5 : w7.cell? ⟨w6.heap.size, 5, none⟩ = some (.slice A2 n2 c2) := HX7.out.cell 5
                  have e7_6 : w7.cell? ⟨w6.heap.size, 6, none⟩ = some (.int .i64 lev) := HX7.out.cell 6
                  have p7_0 : w7.cell? ⟨w0.heap.size, 0, none⟩ = some (.int .i64 pz) := HP7.out.cell 0
                  have p7_1 : w7.cell? ⟨w0.heap.size, 1, none⟩ = some (.int .i64 pl) := HP7.out.cell 1
                  have p7_2 : w7.cell? ⟨w0.heap.size, 2, none⟩ = some (.int .i64 ph) := HP7.out.cell 2
                  have p7_3 : w7.cell? ⟨w0.heap.size, 3, none⟩ = some (.int .i64 pt) := HP7.out.cell 3
                  clear hx7 hon7 hb7)
               | (refine wpList_store_field 3 (.tmp 87) (.tmp 86) rfl rfl w6.heap.size 6 (.int .i64 other) rfl rfl _ _ HX7.out (by kernel_rfl) (by simp) rfl rfl ?_
                  intro w8 hx8 hon8
                  have HX8 : Hid (Blk w8 w6.heap.size 31 #[.int .i64 ver, .int .i64 fr, .int .i64 ti, .int .i64 lo, .int .i64 hi, .slice A2 n2 c2, .int .i64 other]) := hide hx8
                  have HO18 := Lib.hid (hon8.own HO17.out (fun h => by have := (World.ownsRow.lt HO1.out _ h).2; omega))
                  have HO28 := Lib.hid (hon8.own HO27.out (fun h => by have := (World.ownsRow.lt HO2.out _ h).2; omega))
                  have HL8 := Lib.hid (hon8.below HL7.out hsz)
                  have hs8 := Nat.le_of_eq hon8.size.symm
                  have HNe8 := Lib.hid HNe.out
                  clear hx8 hon8)
               | (refine wpList_load_g 31 (.tmp 12) rfl rfl w6.heap.size rfl _ _ HX8.out _ Try.underlying31 rfl (by kernel_rfl) ?_)
               | (at_builtin
                  refine wpList_app_lit ei_bul rfl (.tmp 88) (.tmp 90) rfl w4.heap.size (.slice Ac k cc) k (flatB T2 z2) rfl HO28.out 1 rfl rfl (by simp [Value.oneCell']) (by simp only [maxLen]; omega) (by omega) (by omega) ?_
                  intro v9 w9 hown9 hb9 hg9 hat9
                  have HO29 : Hid (w9.ownsRow w4.heap.size 31 7 v9 (k + 1) (flatB (T2 ++ [⟨ver, fr, ti, lo, hi, other, zs⟩]) (z2 ++ [.slice A2 n2 c2]))) := by
                    show World.ownsRow _ _ _ _ _ _ _
                    rw [flatB_snoc _ _ (by rw [HCl.out, HZ2.out])]
                    exact hown9
                  have HO19 := Lib.hid (kept_row hg9 HO18.out (HNe8.out.left))
                  have HL9 := Lib.hid (HL8.out.trans hb9)
                  have HNe9 : Hid (NE (.slice Al n1 cl) v9) := hide ((HNe8.out.symm.app hat9 (fun g h => by have := (World.ownsRow.lt HO18.out _ h).2; omega)).symm)
                  clear hown9 hb9 hg9 hat9))
            go_roundw
            case rel => exact ⟨k + 1, z1, z2 ++ [.slice A2 n2 c2], by omega, by go_num, by rw [HSv.out], by rw [HT1.out]; simp [HN1.out, HZ1.out], by simp [HZ2.out], by rw [HT1.out]; simpa [HN1.out] using HO19.out, by rw [HT1.out]; exact HQ1.out, by rw [HCh.out]; exact HO29.out, by rw [HCh.out]; simpa using rowsV_snoc HQ2.out HRow.out, HNe9.out, HL9.out⟩
            case measure => simp [intOf]; omega
      · skip
        obtain rfl : ln = k := by omega
        have htk : l.take ln = l := List.take_of_length_le (by rw [HL.out]; exact Nat.le_refl _)
        rw [htk] at HO1 HQ1 HZ1 HO2 HQ2 HCl ⊢
        clear htk
        have HBu1 : Hid (Buls w6 w6.heap.size Al n1 (latestN v l)) := hide (Buls.of_own HO1.out HN1.out HZ1.out.symm (rowsV_map (fun v r h => (h.below HL6.out).more hsz) HQ1.out))
        have HBu2 : Hid (Buls w6 w6.heap.size Ac ln (changedN v other l)) := hide (Buls.of_own HO2.out HZ2.out HCl.out (rowsV_map (fun v r h => (h.below HL6.out).more hsz) HQ2.out))
        have HR6 := Lib.hid (HR4.out.now HL6.out)
        obtain ⟨wv, hwv⟩ : ∃ x, worN l pt = x := ⟨_, rfl⟩
        have hwv2 : levF (countB v pt) 0 l = wv := by rw [← hwv, ← HV.out]; rfl
        rw [hwv2]
        obtain ⟨lv, hlv⟩ : ∃ x, levN l pz pl ph pt = x := ⟨_, rfl⟩
        have K1 : Hid (curN (latestN v l) pt = v) := by show _ = _; rw [← HV.out]; exact cur_latest HRn.out pt
        have K2 : Hid (levN (latestN v l) pz pl ph pt = lv) := by show _ = _; rw [← HV.out, ← hlv]; exact lev_latest HRn.out _ _ _ pt
        have K3 : Hid (levN (changedN v other l) pz pl ph pt = lv) := by show _ = _; rw [← HV.out, ← hlv]; exact lev_changed l other _ _ _ pt
        have K4 : Hid (worN (changedN v other l) pt = wv) := by show _ = _; rw [← HV.out, ← hwv]; exact wor_changed l other pt
        have KW := Lib.hid hwv
        have KL := Lib.hid hlv
        have e4 : (decide (v > 0) == decide (wv > 0)) = true := by rw [beq_iff_eq, ← HV.out, ← hwv]; exact decide_eq_decide.2 (wor_pos HRn.out pt).symm
        clear hwv hwv2 hlv
        generalize latestN v l = T1 at *
        generalize changedN v other l = T2 at *
        have e1 : (wv == wv) = true := beq_self_eq_true wv
        have e2 : (v == v) = true := beq_self_eq_true v
        have e3 : (lv == lv) = true := beq_self_eq_true lv
        have hm1 : n1 ≤ maxLen := Nat.le_trans hcl1 hcl3
        clear HO1 HO2 HNe HQ1 HQ2 HZ1 HZ2 HN1 HCl
        go_wp2_with fail
        have HR6d : Hid (Buls w6.drew w6.drew.heap.size lA ln l) := hide HR6.out
        have HU6d : Hid (Buls w6.drew w6.drew.heap.size Al n1 T1) := hide HBu1.out
        have HY6d : Hid (Buls w6.drew w6.drew.heap.size Ac ln T2) := hide HBu2.out
        have HP6d := Lib.hid HP6.out.drew
        have HB6d := Lib.hid HB6.out.drew
        refine wp_region_held_drew (S := fun W => Buls W W.heap.size lA ln l ∧ Buls W W.heap.size Al n1 T1 ∧ Buls W W.heap.size Ac ln T2 ∧ Blk W w0.heap.size 37 #[.int .i64 pz, .int .i64 pl, .int .i64 ph, .int .i64 pt] ∧ Below w0.heap.size w0 W ∧ W.cell? ⟨w0.heap.size, 0, none⟩ = some (.int .i64 pz) ∧ W.cell? ⟨w0.heap.size, 1, none⟩ = some (.int .i64 pl) ∧ W.cell? ⟨w0.heap.size, 2, none⟩ = some (.int .i64 ph) ∧ W.cell? ⟨w0.heap.size, 3, none⟩ = some (.int .i64 pt)) (by kernel_rfl) (⟨HR6d.out, HU6d.out, HY6d.out, HP6d.out, HB6d.out, HP6d.out.cell 0, HP6d.out.cell 1, HP6d.out.cell 2, HP6d.out.cell 3⟩) (fun hHeld => ?_)
        refine held_run 0 (some 92) (.move (.tmp 0)) ?v20_1_2 (by rfl) (by kernel_rfl) (by kernel_rfl) (by kernel_rfl) (fun _ _ _ h => h) (fun o ho w hS => ?y20_1_2) (by assumption) ?r20_1_2
        case y20_1_2 => (try dsimp only at hS); unfold execOp; simp only [ho]; go_simp; try with_reducible rfl
        try simp only [Act.put, List.setIfInBounds_toArray, List.set_cons_zero, List.set_cons_succ]
        refine held_run 1 (some 93) (.fieldAddr 37 (.tmp 4) 3) ?v20_1_3 (by rfl) (by kernel_rfl) (by kernel_rfl) (by kernel_rfl) (fun _ _ _ h => h) (fun o ho w hS => ?y20_1_3) (by assumption) ?r20_1_3
        case y20_1_3 => (try dsimp only at hS); unfold execOp; simp only [ho]; go_simp; try with_reducible rfl
        try simp only [Act.put, List.setIfInBounds_toArray, List.set_cons_zero, List.set_cons_succ]
        refine held_run 2 (some 94) (.load 3 (.tmp 93)) ?v20_1_4 (by rfl) (by kernel_rfl) (by kernel_rfl) (by kernel_rfl) (fun _ _ _ h => h) (fun o ho w hS => ?y20_1_4) (by assumption) ?r20_1_4
        case y20_1_4 => (try dsimp only at hS); unfold execOp; simp only [ho]; go_simp; try with_reducible rfl
        try simp only [Act.put, List.setIfInBounds_toArray, List.set_cons_zero, List.set_cons_succ]
        refine held_run 4 (some 96) (.move (.tmp 10)) ?v20_1_5 (by rfl) (by kernel_rfl) (by kernel_rfl) (by kernel_rfl) (fun _ _ _ h => h) (fun o ho w hS => ?y20_1_5) (by assumption) ?r20_1_5
        case y20_1_5 => (try dsimp only at hS); unfold execOp; simp only [ho]; go_simp; try with_reducible rfl
        try simp only [Act.put, List.setIfInBounds_toArray, List.set_cons_zero, List.set_cons_succ]
        refine held_call 3 (some 95) 21 [(.tmp 92), (.tmp 94)] #[22, 3] #[.slice lA ln lc, .int .i64 pt] (by rfl) (by rfl) (by kernel_rfl) Try.func21 (by rfl) (by rfl) ?_
        refine ((show Calls _ _ _ _ (fun e w' => e = .returned (.int .i64 wv) ∧ Below _ _ w') from by have h := wor_any lA ln lc l pt _ HR6d.out hln; rw [KW.out] at h; exact h)).mono ?_
        rintro e w7 ⟨rfl, hb7⟩
        have HB7 := Lib.hid (HB6d.out.trans (hb7.mono HB6d.out.size))
        have HR7 := Lib.hid (HR6d.out.now hb7)
        have HU7 := Lib.hid (HU6d.out.now hb7)
        have HY7 := Lib.hid (HY6d.out.now hb7)
        have HP7 := Lib.hid (HP6d.out.below hb7 HP6d.out.lt)
        have hH7 : (fun W => Buls W W.heap.size lA ln l ∧ Buls W W.heap.size Al n1 T1 ∧ Buls W W.heap.size Ac ln T2 ∧ Blk W w0.heap.size 37 #[.int .i64 pz, .int .i64 pl, .int .i64 ph, .int .i64 pt] ∧ Below w0.heap.size w0 W ∧ W.cell? ⟨w0.heap.size, 0, none⟩ = some (.int .i64 pz) ∧ W.cell? ⟨w0.heap.size, 1, none⟩ = some (.int .i64 pl) ∧ W.cell? ⟨w0.heap.size, 2, none⟩ = some (.int .i64 ph) ∧ W.cell? ⟨w0.heap.size, 3, none⟩ = some (.int .i64 pt)) w7 := ⟨HR7.out, HU7.out, HY7.out, HP7.out, HB7.out, HP7.out.cell 0, HP7.out.cell 1, HP7.out.cell 2, HP7.out.cell 3⟩
        refine ⟨_, rfl, hH7, ?_⟩
        clear hb7
        try simp only [Act.put, List.setIfInBounds_toArray, List.set_cons_zero, List.set_cons_succ]
        refine held_run 5 (some 97) (.binOp .eql 3 (.tmp 95) (.tmp 96) 3) ?v20_1_7 (by rfl) (by kernel_rfl) (by kernel_rfl) (by kernel_rfl) (fun _ _ _ h => h) (fun o ho w hS => ?y20_1_7) (by assumption) ?r20_1_7
        case y20_1_7 => (try dsimp only at hS); unfold execOp; simp only [ho]; go_simp; try with_reducible rfl
        try simp only [Act.put, List.setIfInBounds_toArray, List.set_cons_zero, List.set_cons_succ]
        refine held_run 6 (some 98) (.move (.tmp 97)) ?v20_1_8 (by rfl) (by kernel_rfl) (by kernel_rfl) (by kernel_rfl) (fun _ _ _ h => h) (fun o ho w hS => ?y20_1_8) (by assumption) ?r20_1_8
        case y20_1_8 => (try dsimp only at hS); unfold execOp; simp only [ho]; go_simp; try with_reducible rfl
        try simp only [Act.put, List.setIfInBounds_toArray, List.set_cons_zero, List.set_cons_succ]
        refine held_run 7 (some 99) (.move (.tmp 7)) ?v20_1_9 (by rfl) (by kernel_rfl) (by kernel_rfl) (by kernel_rfl) (fun _ _ _ h => h) (fun o ho w hS => ?y20_1_9) (by assumption) ?r20_1_9
        case y20_1_9 => (try dsimp only at hS); unfold execOp; simp only [ho]; go_simp; try with_reducible rfl
        try simp only [Act.put, List.setIfInBounds_toArray, List.set_cons_zero, List.set_cons_succ]
        refine held_run 8 (some 100) (.binOp .gtr 3 (.tmp 99) (.const (.int .i64 0)) 3) ?v20_1_10 (by rfl) (by kernel_rfl) (by kernel_rfl) (by kernel_rfl) (fun _ _ _ h => h) (fun o ho w hS => ?y20_1_10) (by assumption) ?r20_1_10
        case y20_1_10 => (try dsimp only at hS); unfold execOp; simp only [ho]; go_simp; try with_reducible rfl
        try simp only [Act.put, List.setIfInBounds_toArray, List.set_cons_zero, List.set_cons_succ]
        refine held_run 9 (some 101) (.move (.tmp 10)) ?v20_1_11 (by rfl) (by kernel_rfl) (by kernel_rfl) (by kernel_rfl) (fun _ _ _ h => h) (fun o ho w hS => ?y20_1_11) (by assumption) ?r20_1_11
        case y20_1_11 => (try dsimp only at hS); unfold execOp; simp only [ho]; go_simp; try with_reducible rfl
        try simp only [Act.put, List.setIfInBounds_toArray, List.set_cons_zero, List.set_cons_succ]
        refine held_run 10 (some 102) (.binOp .gtr 3 (.tmp 101) (.const (.int .i64 0)) 3) ?v20_1_12 (by rfl) (by kernel_rfl) (by kernel_rfl) (by kernel_rfl) (fun _ _ _ h => h) (fun o ho w hS => ?y20_1_12) (by assumption) ?r20_1_12
        case y20_1_12 => (try dsimp only at hS); unfold execOp; simp only [ho]; go_simp; try with_reducible rfl
        try simp only [Act.put, List.setIfInBounds_toArray, List.set_cons_zero, List.set_cons_succ]
        refine held_run 11 (some 103) (.binOp .eql 4 (.tmp 100) (.tmp 102) 4) ?v20_1_13 (by rfl) (by kernel_rfl) (by kernel_rfl) (by kernel_rfl) (fun _ _ _ h => h) (fun o ho w hS => ?y20_1_13) (by assumption) ?r20_1_13
        case y20_1_13 => (try dsimp only at hS); unfold execOp; simp only [ho]; go_simp; try with_reducible rfl
        try simp only [Act.put, List.setIfInBounds_toArray, List.set_cons_zero, List.set_cons_succ]
        refine held_run 12 (some 104) (.pick (.tmp 98) (.tmp 103) (.const (Value.bool false))) ?v20_1_14 (by rfl) (by kernel_rfl) (by kernel_rfl) (by kernel_rfl) (fun _ _ _ h => h) (fun o ho w hS => ?y20_1_14) (by assumption) ?r20_1_14
        case y20_1_14 => (try dsimp only at hS); unfold execOp; simp only [ho]; go_simp; try with_reducible rfl
        try simp only [Act.put, List.setIfInBounds_toArray, List.set_cons_zero, List.set_cons_succ]
        refine held_run 13 (some 105) (.move (.tmp 104)) ?v20_1_15 (by rfl) (by kernel_rfl) (by kernel_rfl) (by kernel_rfl) (fun _ _ _ h => h) (fun o ho w hS => ?y20_1_15) (by assumption) ?r20_1_15
        case y20_1_15 => (try dsimp only at hS); unfold execOp; simp only [ho]; go_simp; try with_reducible rfl
        try simp only [Act.put, List.setIfInBounds_toArray, List.set_cons_zero, List.set_cons_succ]
        refine held_run 14 (some 106) (.move (.tmp 8)) ?v20_1_16 (by rfl) (by kernel_rfl) (by kernel_rfl) (by kernel_rfl) (fun _ _ _ h => h) (fun o ho w hS => ?y20_1_16) (by assumption) ?r20_1_16
        case y20_1_16 => (try dsimp only at hS); unfold execOp; simp only [ho]; go_simp; try with_reducible rfl
        try simp only [Act.put, List.setIfInBounds_toArray, List.set_cons_zero, List.set_cons_succ]
        refine held_run 15 (some 107) (.fieldAddr 37 (.tmp 4) 3) ?v20_1_17 (by rfl) (by kernel_rfl) (by kernel_rfl) (by kernel_rfl) (fun _ _ _ h => h) (fun o ho w hS => ?y20_1_17) (by assumption) ?r20_1_17
        case y20_1_17 => (try dsimp only at hS); unfold execOp; simp only [ho]; go_simp; try with_reducible rfl
        try simp only [Act.put, List.setIfInBounds_toArray, List.set_cons_zero, List.set_cons_succ]
        refine held_run 16 (some 108) (.load 3 (.tmp 107)) ?v20_1_18 (by rfl) (by kernel_rfl) (by kernel_rfl) (by kernel_rfl) (fun _ _ _ h => h) (fun o ho w hS => ?y20_1_18) (by assumption) ?r20_1_18
        case y20_1_18 => (try dsimp only at hS); unfold execOp; simp only [ho]; go_simp; try with_reducible rfl
        try simp only [Act.put, List.setIfInBounds_toArray, List.set_cons_zero, List.set_cons_succ]
        refine held_run 18 (some 110) (.move (.tmp 7)) ?v20_1_19 (by rfl) (by kernel_rfl) (by kernel_rfl) (by kernel_rfl) (fun _ _ _ h => h) (fun o ho w hS => ?y20_1_19) (by assumption) ?r20_1_19
        case y20_1_19 => (try dsimp only at hS); unfold execOp; simp only [ho]; go_simp; try with_reducible rfl
        try simp only [Act.put, List.setIfInBounds_toArray, List.set_cons_zero, List.set_cons_succ]
        refine held_call 17 (some 109) 17 [(.tmp 106), (.tmp 108)] #[22, 3] #[.slice Al n1 cl, .int .i64 pt] (by rfl) (by rfl) (by kernel_rfl) Try.func17 (by rfl) (by rfl) ?_
        refine ((show Calls _ _ _ _ (fun e w' => e = .returned (.int .i64 v) ∧ Below _ _ w') from by have h := cur_any Al n1 cl T1 pt _ HU7.out hm1; rw [K1.out] at h; exact h)).mono ?_
        rintro e w8 ⟨rfl, hb8⟩
        have HB8 := Lib.hid (HB7.out.trans (hb8.mono HB7.out.size))
        have HR8 := Lib.hid (HR7.out.now hb8)
        have HU8 := Lib.hid (HU7.out.now hb8)
        have HY8 := Lib.hid (HY7.out.now hb8)
        have HP8 := Lib.hid (HP7.out.below hb8 HP7.out.lt)
        have hH8 : (fun W => Buls W W.heap.size lA ln l ∧ Buls W W.heap.size Al n1 T1 ∧ Buls W W.heap.size Ac ln T2 ∧ Blk W w0.heap.size 37 #[.int .i64 pz, .int .i64 pl, .int .i64 ph, .int .i64 pt] ∧ Below w0.heap.size w0 W ∧ W.cell? ⟨w0.heap.size, 0, none⟩ = some (.int .i64 pz) ∧ W.cell? ⟨w0.heap.size, 1, none⟩ = some (.int .i64 pl) ∧ W.cell? ⟨w0.heap.size, 2, none⟩ = some (.int .i64 ph) ∧ W.cell? ⟨w0.heap.size, 3, none⟩ = some (.int .i64 pt)) w8 := ⟨HR8.out, HU8.out, HY8.out, HP8.out, HB8.out, HP8.out.cell 0, HP8.out.cell 1, HP8.out.cell 2, HP8.out.cell 3⟩
        refine ⟨_, rfl, hH8, ?_⟩
        clear hb8
        try simp only [Act.put, List.setIfInBounds_toArray, List.set_cons_zero, List.set_cons_succ]
        refine held_run 19 (some 111) (.binOp .eql 3 (.tmp 109) (.tmp 110) 3) ?v20_1_21 (by rfl) (by kernel_rfl) (by kernel_rfl) (by kernel_rfl) (fun _ _ _ h => h) (fun o ho w hS => ?y20_1_21) (by assumption) ?r20_1_21
        case y20_1_21 => (try dsimp only at hS); unfold execOp; simp only [ho]; go_simp; try with_reducible rfl
        try simp only [Act.put, List.setIfInBounds_toArray, List.set_cons_zero, List.set_cons_succ]
        refine held_run 20 (some 112) (.pick (.tmp 105) (.tmp 111) (.const (Value.bool false))) ?v20_1_22 (by rfl) (by kernel_rfl) (by kernel_rfl) (by kernel_rfl) (fun _ _ _ h => h) (fun o ho w hS => ?y20_1_22) (by assumption) ?r20_1_22
        case y20_1_22 => (try dsimp only at hS); unfold execOp; simp only [ho]; go_simp; try with_reducible rfl
        try simp only [Act.put, List.setIfInBounds_toArray, List.set_cons_zero, List.set_cons_succ]
        refine held_run 21 (some 113) (.move (.tmp 112)) ?v20_1_23 (by rfl) (by kernel_rfl) (by kernel_rfl) (by kernel_rfl) (fun _ _ _ h => h) (fun o ho w hS => ?y20_1_23) (by assumption) ?r20_1_23
        case y20_1_23 => (try dsimp only at hS); unfold execOp; simp only [ho]; go_simp; try with_reducible rfl
        try simp only [Act.put, List.setIfInBounds_toArray, List.set_cons_zero, List.set_cons_succ]
        refine held_run 22 (some 114) (.move (.tmp 8)) ?v20_1_24 (by rfl) (by kernel_rfl) (by kernel_rfl) (by kernel_rfl) (fun _ _ _ h => h) (fun o ho w hS => ?y20_1_24) (by assumption) ?r20_1_24
        case y20_1_24 => (try dsimp only at hS); unfold execOp; simp only [ho]; go_simp; try with_reducible rfl
        try simp only [Act.put, List.setIfInBounds_toArray, List.set_cons_zero, List.set_cons_succ]
        refine held_load 23 (some 115) 37 (.tmp 4) (by rfl) (by kernel_rfl) (by kernel_rfl) (by kernel_rfl) (w0.heap.size) 37 #[.int .i64 pz, .int .i64 pl, .int .i64 ph, .int .i64 pt] (fun _ _ _ h => h) (by rfl) (fun _ h => h.2.2.2.1) _ Try.underlying37 rfl (by kernel_rfl) (by assumption) ?_
        try simp only [Act.put, List.setIfInBounds_toArray, List.set_cons_zero, List.set_cons_succ]
        refine held_run 25 (some 117) (.move (.tmp 0)) ?v20_1_26 (by rfl) (by kernel_rfl) (by kernel_rfl) (by kernel_rfl) (fun _ _ _ h => h) (fun o ho w hS => ?y20_1_26) (by assumption) ?r20_1_26
        case y20_1_26 => (try dsimp only at hS); unfold execOp; simp only [ho]; go_simp; try with_reducible rfl
        try simp only [Act.put, List.setIfInBounds_toArray, List.set_cons_zero, List.set_cons_succ]
        refine held_load 26 (some 118) 37 (.tmp 4) (by rfl) (by kernel_rfl) (by kernel_rfl) (by kernel_rfl) (w0.heap.size) 37 #[.int .i64 pz, .int .i64 pl, .int .i64 ph, .int .i64 pt] (fun _ _ _ h => h) (by rfl) (fun _ h => h.2.2.2.1) _ Try.underlying37 rfl (by kernel_rfl) (by assumption) ?_
        try simp only [Act.put, List.setIfInBounds_toArray, List.set_cons_zero, List.set_cons_succ]
        refine held_call 24 (some 116) 19 [(.tmp 114), (.tmp 115)] #[22, 37] #[.slice Al n1 cl, .agg #[.int .i64 pz, .int .i64 pl, .int .i64 ph, .int .i64 pt]] (by rfl) (by rfl) (by kernel_rfl) Try.func19 (by rfl) (by rfl) ?_
        refine ((show Calls _ _ _ _ (fun e w' => e = .returned (.int .i64 lv) ∧ Below _ _ w') from by have h := level_any Al n1 cl T1 pz pl ph pt _ HU8.out hm1; rw [K2.out] at h; exact h)).mono ?_
        rintro e w9 ⟨rfl, hb9⟩
        have HB9 := Lib.hid (HB8.out.trans (hb9.mono HB8.out.size))
        have HR9 := Lib.hid (HR8.out.now hb9)
        have HU9 := Lib.hid (HU8.out.now hb9)
        have HY9 := Lib.hid (HY8.out.now hb9)
        have HP9 := Lib.hid (HP8.out.below hb9 HP8.out.lt)
        have hH9 : (fun W => Buls W W.heap.size lA ln l ∧ Buls W W.heap.size Al n1 T1 ∧ Buls W W.heap.size Ac ln T2 ∧ Blk W w0.heap.size 37 #[.int .i64 pz, .int .i64 pl, .int .i64 ph, .int .i64 pt] ∧ Below w0.heap.size w0 W ∧ W.cell? ⟨w0.heap.size, 0, none⟩ = some (.int .i64 pz) ∧ W.cell? ⟨w0.heap.size, 1, none⟩ = some (.int .i64 pl) ∧ W.cell? ⟨w0.heap.size, 2, none⟩ = some (.int .i64 ph) ∧ W.cell? ⟨w0.heap.size, 3, none⟩ = some (.int .i64 pt)) w9 := ⟨HR9.out, HU9.out, HY9.out, HP9.out, HB9.out, HP9.out.cell 0, HP9.out.cell 1, HP9.out.cell 2, HP9.out.cell 3⟩
        refine ⟨_, rfl, hH9, ?_⟩
        clear hb9
        try simp only [Act.put, List.setIfInBounds_toArray, List.set_cons_zero, List.set_cons_succ]
        refine held_call 27 (some 119) 19 [(.tmp 117), (.tmp 118)] #[22, 37] #[.slice lA ln lc, .agg #[.int .i64 pz, .int .i64 pl, .int .i64 ph, .int .i64 pt]] (by rfl) (by rfl) (by kernel_rfl) Try.func19 (by rfl) (by rfl) ?_
        refine ((show Calls _ _ _ _ (fun e w' => e = .returned (.int .i64 lv) ∧ Below _ _ w') from by have h := level_any lA ln lc l pz pl ph pt _ HR9.out hln; rw [KL.out] at h; exact h)).mono ?_
        rintro e w10 ⟨rfl, hb10⟩
        have HB10 := Lib.hid (HB9.out.trans (hb10.mono HB9.out.size))
        have HR10 := Lib.hid (HR9.out.now hb10)
        have HU10 := Lib.hid (HU9.out.now hb10)
        have HY10 := Lib.hid (HY9.out.now hb10)
        have HP10 := Lib.hid (HP9.out.below hb10 HP9.out.lt)
        have hH10 : (fun W => Buls W W.heap.size lA ln l ∧ Buls W W.heap.size Al n1 T1 ∧ Buls W W.heap.size Ac ln T2 ∧ Blk W w0.heap.size 37 #[.int .i64 pz, .int .i64 pl, .int .i64 ph, .int .i64 pt] ∧ Below w0.heap.size w0 W ∧ W.cell? ⟨w0.heap.size, 0, none⟩ = some (.int .i64 pz) ∧ W.cell? ⟨w0.heap.size, 1, none⟩ = some (.int .i64 pl) ∧ W.cell? ⟨w0.heap.size, 2, none⟩ = some (.int .i64 ph) ∧ W.cell? ⟨w0.heap.size, 3, none⟩ = some (.int .i64 pt)) w10 := ⟨HR10.out, HU10.out, HY10.out, HP10.out, HB10.out, HP10.out.cell 0, HP10.out.cell 1, HP10.out.cell 2, HP10.out.cell 3⟩
        refine ⟨_, rfl, hH10, ?_⟩
        clear hb10
        try simp only [Act.put, List.setIfInBounds_toArray, List.set_cons_zero, List.set_cons_succ]
        refine held_run 28 (some 120) (.binOp .eql 3 (.tmp 116) (.tmp 119) 3) ?v20_1_30 (by rfl) (by kernel_rfl) (by kernel_rfl) (by kernel_rfl) (fun _ _ _ h => h) (fun o ho w hS => ?y20_1_30) (by assumption) ?r20_1_30
        case y20_1_30 => (try dsimp only at hS); unfold execOp; simp only [ho]; go_simp; try with_reducible rfl
        try simp only [Act.put, List.setIfInBounds_toArray, List.set_cons_zero, List.set_cons_succ]
        refine held_run 29 (some 121) (.pick (.tmp 113) (.tmp 120) (.const (Value.bool false))) ?v20_1_31 (by rfl) (by kernel_rfl) (by kernel_rfl) (by kernel_rfl) (fun _ _ _ h => h) (fun o ho w hS => ?y20_1_31) (by assumption) ?r20_1_31
        case y20_1_31 => (try dsimp only at hS); unfold execOp; simp only [ho]; go_simp; try with_reducible rfl
        try simp only [Act.put, List.setIfInBounds_toArray, List.set_cons_zero, List.set_cons_succ]
        refine held_run 30 (some 122) (.move (.tmp 121)) ?v20_1_32 (by rfl) (by kernel_rfl) (by kernel_rfl) (by kernel_rfl) (fun _ _ _ h => h) (fun o ho w hS => ?y20_1_32) (by assumption) ?r20_1_32
        case y20_1_32 => (try dsimp only at hS); unfold execOp; simp only [ho]; go_simp; try with_reducible rfl
        try simp only [Act.put, List.setIfInBounds_toArray, List.set_cons_zero, List.set_cons_succ]
        refine held_run 31 (some 123) (.move (.tmp 9)) ?v20_1_33 (by rfl) (by kernel_rfl) (by kernel_rfl) (by kernel_rfl) (fun _ _ _ h => h) (fun o ho w hS => ?y20_1_33) (by assumption) ?r20_1_33
        case y20_1_33 => (try dsimp only at hS); unfold execOp; simp only [ho]; go_simp; try with_reducible rfl
        try simp only [Act.put, List.setIfInBounds_toArray, List.set_cons_zero, List.set_cons_succ]
        refine held_load 32 (some 124) 37 (.tmp 4) (by rfl) (by kernel_rfl) (by kernel_rfl) (by kernel_rfl) (w0.heap.size) 37 #[.int .i64 pz, .int .i64 pl, .int .i64 ph, .int .i64 pt] (fun _ _ _ h => h) (by rfl) (fun _ h => h.2.2.2.1) _ Try.underlying37 rfl (by kernel_rfl) (by assumption) ?_
        try simp only [Act.put, List.setIfInBounds_toArray, List.set_cons_zero, List.set_cons_succ]
        refine held_run 34 (some 126) (.move (.tmp 0)) ?v20_1_35 (by rfl) (by kernel_rfl) (by kernel_rfl) (by kernel_rfl) (fun _ _ _ h => h) (fun o ho w hS => ?y20_1_35) (by assumption) ?r20_1_35
        case y20_1_35 => (try dsimp only at hS); unfold execOp; simp only [ho]; go_simp; try with_reducible rfl
        try simp only [Act.put, List.setIfInBounds_toArray, List.set_cons_zero, List.set_cons_succ]
        refine held_load 35 (some 127) 37 (.tmp 4) (by rfl) (by kernel_rfl) (by kernel_rfl) (by kernel_rfl) (w0.heap.size) 37 #[.int .i64 pz, .int .i64 pl, .int .i64 ph, .int .i64 pt] (fun _ _ _ h => h) (by rfl) (fun _ h => h.2.2.2.1) _ Try.underlying37 rfl (by kernel_rfl) (by assumption) ?_
        try simp only [Act.put, List.setIfInBounds_toArray, List.set_cons_zero, List.set_cons_succ]
        refine held_call 33 (some 125) 19 [(.tmp 123), (.tmp 124)] #[22, 37] #[.slice Ac ln cc, .agg #[.int .i64 pz, .int .i64 pl, .int .i64 ph, .int .i64 pt]] (by rfl) (by rfl) (by kernel_rfl) Try.func19 (by rfl) (by rfl) ?_
        refine ((show Calls _ _ _ _ (fun e w' => e = .returned (.int .i64 lv) ∧ Below _ _ w') from by have h := level_any Ac ln cc T2 pz pl ph pt _ HY10.out hln; rw [K3.out] at h; exact h)).mono ?_
        rintro e w11 ⟨rfl, hb11⟩
        have HB11 := Lib.hid (HB10.out.trans (hb11.mono HB10.out.size))
        have HR11 := Lib.hid (HR10.out.now hb11)
        have HU11 := Lib.hid (HU10.out.now hb11)
        have HY11 := Lib.hid (HY10.out.now hb11)
        have HP11 := Lib.hid (HP10.out.below hb11 HP10.out.lt)
        have hH11 : (fun W => Buls W W.heap.size lA ln l ∧ Buls W W.heap.size Al n1 T1 ∧ Buls W W.heap.size Ac ln T2 ∧ Blk W w0.heap.size 37 #[.int .i64 pz, .int .i64 pl, .int .i64 ph, .int .i64 pt] ∧ Below w0.heap.size w0 W ∧ W.cell? ⟨w0.heap.size, 0, none⟩ = some (.int .i64 pz) ∧ W.cell? ⟨w0.heap.size, 1, none⟩ = some (.int .i64 pl) ∧ W.cell? ⟨w0.heap.size, 2, none⟩ = some (.int .i64 ph) ∧ W.cell? ⟨w0.heap.size, 3, none⟩ = some (.int .i64 pt)) w11 := ⟨HR11.out, HU11.out, HY11.out, HP11.out, HB11.out, HP11.out.cell 0, HP11.out.cell 1, HP11.out.cell 2, HP11.out.cell 3⟩
        refine ⟨_, rfl, hH11, ?_⟩
        clear hb11
        try simp only [Act.put, List.setIfInBounds_toArray, List.set_cons_zero, List.set_cons_succ]
        refine held_call 36 (some 128) 19 [(.tmp 126), (.tmp 127)] #[22, 37] #[.slice lA ln lc, .agg #[.int .i64 pz, .int .i64 pl, .int .i64 ph, .int .i64 pt]] (by rfl) (by rfl) (by kernel_rfl) Try.func19 (by rfl) (by rfl) ?_
        refine ((show Calls _ _ _ _ (fun e w' => e = .returned (.int .i64 lv) ∧ Below _ _ w') from by have h := level_any lA ln lc l pz pl ph pt _ HR11.out hln; rw [KL.out] at h; exact h)).mono ?_
        rintro e w12 ⟨rfl, hb12⟩
        have HB12 := Lib.hid (HB11.out.trans (hb12.mono HB11.out.size))
        have HR12 := Lib.hid (HR11.out.now hb12)
        have HU12 := Lib.hid (HU11.out.now hb12)
        have HY12 := Lib.hid (HY11.out.now hb12)
        have HP12 := Lib.hid (HP11.out.below hb12 HP11.out.lt)
        have hH12 : (fun W => Buls W W.heap.size lA ln l ∧ Buls W W.heap.size Al n1 T1 ∧ Buls W W.heap.size Ac ln T2 ∧ Blk W w0.heap.size 37 #[.int .i64 pz, .int .i64 pl, .int .i64 ph, .int .i64 pt] ∧ Below w0.heap.size w0 W ∧ W.cell? ⟨w0.heap.size, 0, none⟩ = some (.int .i64 pz) ∧ W.cell? ⟨w0.heap.size, 1, none⟩ = some (.int .i64 pl) ∧ W.cell? ⟨w0.heap.size, 2, none⟩ = some (.int .i64 ph) ∧ W.cell? ⟨w0.heap.size, 3, none⟩ = some (.int .i64 pt)) w12 := ⟨HR12.out, HU12.out, HY12.out, HP12.out, HB12.out, HP12.out.cell 0, HP12.out.cell 1, HP12.out.cell 2, HP12.out.cell 3⟩
        refine ⟨_, rfl, hH12, ?_⟩
        clear hb12
        try simp only [Act.put, List.setIfInBounds_toArray, List.set_cons_zero, List.set_cons_succ]
        refine held_run 37 (some 129) (.binOp .eql 3 (.tmp 125) (.tmp 128) 3) ?v20_1_39 (by rfl) (by kernel_rfl) (by kernel_rfl) (by kernel_rfl) (fun _ _ _ h => h) (fun o ho w hS => ?y20_1_39) (by assumption) ?r20_1_39
        case y20_1_39 => (try dsimp only at hS); unfold execOp; simp only [ho]; go_simp; try with_reducible rfl
        try simp only [Act.put, List.setIfInBounds_toArray, List.set_cons_zero, List.set_cons_succ]
        refine held_run 38 (some 130) (.pick (.tmp 122) (.tmp 129) (.const (Value.bool false))) ?v20_1_40 (by rfl) (by kernel_rfl) (by kernel_rfl) (by kernel_rfl) (fun _ _ _ h => h) (fun o ho w hS => ?y20_1_40) (by assumption) ?r20_1_40
        case y20_1_40 => (try dsimp only at hS); unfold execOp; simp only [ho]; go_simp; try with_reducible rfl
        try simp only [Act.put, List.setIfInBounds_toArray, List.set_cons_zero, List.set_cons_succ]
        refine held_run 39 (some 131) (.move (.tmp 130)) ?v20_1_41 (by rfl) (by kernel_rfl) (by kernel_rfl) (by kernel_rfl) (fun _ _ _ h => h) (fun o ho w hS => ?y20_1_41) (by assumption) ?r20_1_41
        case y20_1_41 => (try dsimp only at hS); unfold execOp; simp only [ho]; go_simp; try with_reducible rfl
        try simp only [Act.put, List.setIfInBounds_toArray, List.set_cons_zero, List.set_cons_succ]
        refine held_run 40 (some 132) (.move (.tmp 9)) ?v20_1_42 (by rfl) (by kernel_rfl) (by kernel_rfl) (by kernel_rfl) (fun _ _ _ h => h) (fun o ho w hS => ?y20_1_42) (by assumption) ?r20_1_42
        case y20_1_42 => (try dsimp only at hS); unfold execOp; simp only [ho]; go_simp; try with_reducible rfl
        try simp only [Act.put, List.setIfInBounds_toArray, List.set_cons_zero, List.set_cons_succ]
        refine held_run 41 (some 133) (.fieldAddr 37 (.tmp 4) 3) ?v20_1_43 (by rfl) (by kernel_rfl) (by kernel_rfl) (by kernel_rfl) (fun _ _ _ h => h) (fun o ho w hS => ?y20_1_43) (by assumption) ?r20_1_43
        case y20_1_43 => (try dsimp only at hS); unfold execOp; simp only [ho]; go_simp; try with_reducible rfl
        try simp only [Act.put, List.setIfInBounds_toArray, List.set_cons_zero, List.set_cons_succ]
        refine held_run 42 (some 134) (.load 3 (.tmp 133)) ?v20_1_44 (by rfl) (by kernel_rfl) (by kernel_rfl) (by kernel_rfl) (fun _ _ _ h => h) (fun o ho w hS => ?y20_1_44) (by assumption) ?r20_1_44
        case y20_1_44 => (try dsimp only at hS); unfold execOp; simp only [ho]; go_simp; try with_reducible rfl
        try simp only [Act.put, List.setIfInBounds_toArray, List.set_cons_zero, List.set_cons_succ]
        refine held_run 44 (some 136) (.move (.tmp 10)) ?v20_1_45 (by rfl) (by kernel_rfl) (by kernel_rfl) (by kernel_rfl) (fun _ _ _ h => h) (fun o ho w hS => ?y20_1_45) (by assumption) ?r20_1_45
        case y20_1_45 => (try dsimp only at hS); unfold execOp; simp only [ho]; go_simp; try with_reducible rfl
        try simp only [Act.put, List.setIfInBounds_toArray, List.set_cons_zero, List.set_cons_succ]
        refine held_call 43 (some 135) 21 [(.tmp 132), (.tmp 134)] #[22, 3] #[.slice Ac ln cc, .int .i64 pt] (by rfl) (by rfl) (by kernel_rfl) Try.func21 (by rfl) (by rfl) ?_
        refine ((show Calls _ _ _ _ (fun e w' => e = .returned (.int .i64 wv) ∧ Below _ _ w') from by have h := wor_any Ac ln cc T2 pt _ HY12.out hln; rw [K4.out] at h; exact h)).mono ?_
        rintro e w13 ⟨rfl, hb13⟩
        have HB13 := Lib.hid (HB12.out.trans (hb13.mono HB12.out.size))
        have HR13 := Lib.hid (HR12.out.now hb13)
        have HU13 := Lib.hid (HU12.out.now hb13)
        have HY13 := Lib.hid (HY12.out.now hb13)
        have HP13 := Lib.hid (HP12.out.below hb13 HP12.out.lt)
        have hH13 : (fun W => Buls W W.heap.size lA ln l ∧ Buls W W.heap.size Al n1 T1 ∧ Buls W W.heap.size Ac ln T2 ∧ Blk W w0.heap.size 37 #[.int .i64 pz, .int .i64 pl, .int .i64 ph, .int .i64 pt] ∧ Below w0.heap.size w0 W ∧ W.cell? ⟨w0.heap.size, 0, none⟩ = some (.int .i64 pz) ∧ W.cell? ⟨w0.heap.size, 1, none⟩ = some (.int .i64 pl) ∧ W.cell? ⟨w0.heap.size, 2, none⟩ = some (.int .i64 ph) ∧ W.cell? ⟨w0.heap.size, 3, none⟩ = some (.int .i64 pt)) w13 := ⟨HR13.out, HU13.out, HY13.out, HP13.out, HB13.out, HP13.out.cell 0, HP13.out.cell 1, HP13.out.cell 2, HP13.out.cell 3⟩
        refine ⟨_, rfl, hH13, ?_⟩
        clear hb13
        try simp only [Act.put, List.setIfInBounds_toArray, List.set_cons_zero, List.set_cons_succ]
        refine held_run 45 (some 137) (.binOp .eql 3 (.tmp 135) (.tmp 136) 3) ?v20_1_47 (by rfl) (by kernel_rfl) (by kernel_rfl) (by kernel_rfl) (fun _ _ _ h => h) (fun o ho w hS => ?y20_1_47) (by assumption) ?r20_1_47
        case y20_1_47 => (try dsimp only at hS); unfold execOp; simp only [ho]; go_simp; try with_reducible rfl
        try simp only [Act.put, List.setIfInBounds_toArray, List.set_cons_zero, List.set_cons_succ]
        refine held_run 46 (some 138) (.pick (.tmp 131) (.tmp 137) (.const (Value.bool false))) ?v20_1_48 (by rfl) (by kernel_rfl) (by kernel_rfl) (by kernel_rfl) (fun _ _ _ h => h) (fun o ho w hS => ?y20_1_48) (by assumption) ?r20_1_48
        case y20_1_48 => (try dsimp only at hS); unfold execOp; simp only [ho]; go_simp; try with_reducible rfl
        try simp only [Act.put, List.setIfInBounds_toArray, List.set_cons_zero, List.set_cons_succ]
        refine held_run 47 (some 6) (.assign (.tmp 138)) ?v20_1_49 (by rfl) (by kernel_rfl) (by kernel_rfl) (by kernel_rfl) (fun _ _ _ h => h) (fun o ho w hS => ?y20_1_49) (by assumption) ?r20_1_49
        case y20_1_49 => (try dsimp only at hS); unfold execOp; simp only [ho]; go_simp; try with_reducible rfl
        try simp only [Act.put, List.setIfInBounds_toArray, List.set_cons_zero, List.set_cons_succ]
        refine wpAnyH_done (by kernel_rfl) ?_ _
        go_wp2_with fail
        go_ret
        exact ⟨rfl, HB13.out⟩


theorem own_bulletinLatest : ownKnob Try.prog.godebug = none := by kernel_rfl
theorem laidOut_bulletinLatest : laidOutB Try.prog = true := by kernel_rfl
set_option maxRecDepth 100000 in
theorem bulletinLatest_lifted (os : Os) (started : os.Started) (H : Type) (enc : TypeId × Value → H) :
    ReturnsInHanded {} Try.checked os 6 .any (Rows.bulletinLatestSpec.pre6 enc Try.prog Try.f6 Rows.bulletinLatestRow.domain false) (Rows.bulletinLatestSpec.post enc Try.prog Try.f6 false true false false) := by
  refine returnsInHanded_of_change (C := Try.checked) own_bulletinLatest started (by kernel_rfl) Try.func6
    (ChangeSpec.witness6 (enc := enc) (C := Try.checked) false ⟨#[], #[.slice none 0 0, .agg #[.int .i64 0, .int .i64 0, .int .i64 0, .int .i64 0], .int .i64 0], []⟩ 8 (by kernel_rfl) (by kernel_rfl) (by kernel_rfl) (by kernel_rfl)) ?_
  intro W base args ds gs before hval0 hW hcnd _
  have hval : ∀ (j : Nat) t v, Try.f6.params[j]? = some t → args[j]? = some v → Value.okWide Try.prog W .any base t v := hval0
  have hW' := hW
  obtain ⟨p, q, hA0, hV, rfl, hfz, hnd⟩ := hW
  have hA : DataW.TrodAll enc Try.prog W 0 (fun _ => true) true Try.f6.params.toList args.toList ds p := hA0
  rw [Try.params6] at hA hval
  obtain ⟨v0, vs0, d0, ds0, p0, q0, hargs, rfl, rfl, h0, r0⟩ := trodAll_cons hA
  obtain ⟨v1, vs1, d1, ds1, p1, q1, rfl, rfl, rfl, h1, r1⟩ := trodAll_cons r0
  obtain ⟨v2, vs2, d2, ds2, p2, q2, rfl, rfl, rfl, h2, r2⟩ := trodAll_cons r1
  obtain ⟨rfl, rfl, rfl⟩ := trodAll_nil r2
  obtain rfl : args = #[v0, v1, v2] := by cases args; simp_all
  obtain ⟨rfl, rfl⟩ := trodVars_none hV
  obtain ⟨lA, ln, lc, l, rfl, l1, l2, lr, lw⟩ := open_buls (hval 0 22 v0 rfl rfl) h0
  obtain ⟨ol, rfl, oll, of⟩ := open_agg Try.underlying37 (by kernel_rfl) (by kernel_rfl) (hval 1 37 v1 rfl rfl) h1
  obtain ⟨u0, u1, u2, u3, rfl⟩ := list_len4 ol oll
  obtain ⟨pz, rfl, wpz⟩ := field_int Try.underlying3 (of 0 _ _ rfl rfl)
  obtain ⟨pl, rfl, wpl⟩ := field_int Try.underlying3 (of 1 _ _ rfl rfl)
  obtain ⟨ph, rfl, wph⟩ := field_int Try.underlying3 (of 2 _ _ rfl rfl)
  obtain ⟨pt, rfl, wpt⟩ := field_int Try.underlying3 (of 3 _ _ rfl rfl)
  obtain ⟨other, rfl, other0, other1⟩ := open_i64 Try.underlying3 (hval 2 3 v2 rfl rfl) h2
  refine (bulletinLatest_any W lA ln lc l l1 l2 lr lw pz pl ph pt wpz wpl wph wpt other ⟨other0, other1⟩).mono fun e W' ⟨he, hb⟩ => ?_
  subst he
  exact ⟨_, rfl, law_post laidOut_bulletinLatest (by kernel_rfl) rfl rfl Try.underlying4 hW' rfl hb⟩

theorem bulletinLatest_holds : Rows.BulletinLatestSaid :=
  OpenClaim.holds_of_wide 6 Try.f6 rfl rfl rfl rfl rfl rfl rfl ⟨rfl, rfl, rfl, rfl, rfl⟩ rfl rfl rfl rfl rfl (by kernel_rfl) Try.func6 (by kernel_rfl)
    (of_decide_eq_true (by kernel_rfl)) (by unfold Func.isWrapper; rw [if_neg (by decide +kernel)]; exact ⟨rfl, rfl⟩)
    (fun os started H enc _ => bulletinLatest_lifted os started H enc)
#print axioms bulletinLatest_holds
end Go.Proofs.Ytmbdlnimegdigaa
