/-
  TopDivided answers true for every input. Its conditions: none.
-/
import Derived.Test.YtedeggjefnpjgaaRows
import Derived.Test.YtedeggjefnpjgaaDj6
import Derived.Deep.CutBlock
namespace Go.Proofs.Ytedeggjefnpjgaa
open Go.ChangeShapes Go.WideShapes Go.ChangeAt Go.RowKit

set_option maxRecDepth 100000 in
set_option maxHeartbeats 4000000 in
theorem topDivided_any (w : World) (r : Int) (hr : -9223372036854775808 ≤ r ∧ r ≤ 9223372036854775807) (v : Value) (l : List Ft) (hv : StrV Ft.cells 2 w w.heap.size v l) (hw : ∀ f ∈ l, -9223372036854775808 ≤ f.nn ∧ f.nn ≤ 9223372036854775807) :
    Calls Try.prog 3 #[.int .i64 r, v] w fun e w' => e = .returned (.bool true) ∧ Below w.heap.size w w' := by
  obtain ⟨fA, fn, fc, rfl, HLf, _, _, hfs⟩ := hv.nam
  have HF := Lib.hid hfs
  have HW := Lib.hid hw
  have HFin : Hid (∀ w', Below w.heap.size w w' → (fun (e : Ending) (w' : World) => e = .returned (.bool true) ∧ Below w.heap.size w w') (.returned (.bool true)) w') := fun w' h => ⟨rfl, h⟩
  generalize (fun (e : Ending) (w' : World) => e = .returned (.bool true) ∧ Below w.heap.size w w') = RR at *
  obtain ⟨hr0, hr1⟩ := hr
  clear hv hfs hw
  go_enter Try.func3, Try.ntmps3
  go_wp2_with fail
  with_reducible refine (linkAlive_any w).mono ?_
  rintro e w1 ⟨rfl, hb1⟩
  have HB1 := Lib.hid hb1
  clear hb1
  by_cases hneg : r < 0
  · have d1 : decide (r < 0) = true := decide_eq_true hneg
    go_wp2_with fail
    try go_ret
    exact HFin.out _ HB1.out
  have d1 : decide (r < 0) = false := decide_eq_false hneg
  by_cases hbig : r > 20
  · have d2 : decide (r > 20) = true := decide_eq_true hbig
    go_wp2_with fail
    try go_ret
    exact HFin.out _ HB1.out
  have d2 : decide (r > 20) = false := decide_eq_false hbig
  by_cases hfn : fn > 60
  · have d3 : decide ((fn : Int) > 60) = true := decide_eq_true (by omega)
    go_wp2_with fail
    try go_ret
    exact HFin.out _ HB1.out
  have d3 : decide ((fn : Int) > 60) = false := decide_eq_false (by omega)
  obtain ⟨n, rfl⟩ : ∃ n : Nat, r = (n : Int) := ⟨r.toNat, by omega⟩
  have hn20 : n ≤ 20 := by omega
  have hfn60 : fn ≤ 60 := by omega
  clear hneg hbig hfn hr0 hr1
  go_wp2_with fail
  with_reducible refine (opened_any n w1 hn20).mono ?_
  rintro e w2 ⟨v2, rfl, hv2, hb2⟩
  obtain ⟨paA, pac, maA, man, mac, na, oaA, oan, oac, ka, gaA, gan, gac, eaA, ean, eac, rfl, hma, hoa, hga⟩ := hv2.parts2
  have HV2 := Lib.hid hv2
  have HB2 : Hid (Below w.heap.size w w2) := hide (HB1.out.trans (hb2.mono HB1.out.size))
  have hgw : w.heap.size ≤ w2.heap.size := HB2.out.size
  clear hv2 hb2 HB1
  go_upto_region 6 with (fail)
  have HBw3 := (Blk.new w2 34 #[.slice paA 2 pac, .slice maA man mac, .int .i64 4, .int .i64 na, .slice oaA oan oac, .int .i64 4, .int .i64 ka, .slice gaA gan gac, .slice eaA ean eac, .bool true])
  have HLw3 := (below_new w2 (.cells #[.slice paA 2 pac, .slice maA man mac, .int .i64 4, .int .i64 na, .slice oaA oan oac, .int .i64 4, .int .i64 ka, .slice gaA gan gac, .slice eaA ean eac, .bool true] 34))
  have hsw3 : (w2.alloc (.cells #[.slice paA 2 pac, .slice maA man mac, .int .i64 4, .int .i64 na, .slice oaA oan oac, .int .i64 4, .int .i64 ka, .slice gaA gan gac, .slice eaA ean eac, .bool true] 34)).heap.size = w2.heap.size + 1 := by simp
  generalize w2.alloc (.cells #[.slice paA 2 pac, .slice maA man mac, .int .i64 4, .int .i64 na, .slice oaA oan oac, .int .i64 4, .int .i64 ka, .slice gaA gan gac, .slice eaA ean eac, .bool true] 34) = w3 at HBw3 HLw3 hsw3 ⊢
  replace HBw3 := Lib.hid HBw3
  replace HLw3 := Lib.hid HLw3
  have hlw3 : w2.heap.size < w3.heap.size := by omega
  replace hsw3 := Lib.hid hsw3
  have HX3 := HBw3
  have HV3 := Lib.hid (HV2.out.now HLw3.out)
  have HB3 : Hid (Below w.heap.size w w3) := hide (HB2.out.trans (HLw3.out.mono HB2.out.size))
  clear HBw3 HLw3 hsw3 hlw3 HV2 HB2
  generalize w2.heap.size = g at *
  go_wp2_with fail
  with_reducible refine (made_any n w3 hn20).mono ?_
  rintro e w4 ⟨v4, rfl, ho4, hb4⟩
  obtain ⟨aA, an, ac, rfl, HLa, _⟩ := ho4.parts
  have han : an = n := by rw [← HLa.out, rdsN_len]
  subst han
  have HA4 := Lib.hid ho4
  have HX4 := Lib.hid (HX3.out.below hb4 HX3.out.lt)
  have HV4 := Lib.hid (HV3.out.now hb4)
  have HB4 : Hid (Below w.heap.size w w4) := hide (HB3.out.trans (hb4.mono HB3.out.size))
  clear ho4 hb4 HX3 HV3 HB3
  have HK4 : Hid (LkAt w4 g an ⟨0, 0, [], [], 0⟩) := hide (LkAt.mk' HV4.out rfl HX4.out)
  clear HX4 HV4 hma hoa hga
  go_wp2_with fail
  go_loopw [7] (fun i wr => ∃ (c : Nat) (x : Lk), c ≤ fn ∧ i = .int .i64 c ∧ OKL an x ∧ LkAt wr g an x ∧ OwnRd wr 0 (.slice aA an ac) (rdsN 1 an) ∧ Below w.heap.size w wr) (fun i _ => fn - (intOf i).toNat)
  case atStart => exact ⟨0, _, by omega, rfl, OKL.start hn20, HK4.out, HA4.out, HB4.out⟩
  case round =>
    obtain ⟨c, x, hc, rfl, hOK, hK, hA, hB⟩ := hrel
    obtain ⟨wo, rfl⟩ : ∃ wo : World, wo = wr := ⟨_, rfl⟩
    have HOK := Lib.hid hOK
    have HAo := Lib.hid hA
    have HBo := Lib.hid hB
    have hgo : g < wo.heap.size := by obtain ⟨pzA, pzc, mzA, mzn, mzc, nz, ozA, ozn, ozc, kz, gzA, gzn, gzc, ezA, ezn, ezc, hX, _, hmz, hoz, hgz⟩ := hK; exact hX.lt
    have HKo := Lib.hid hK
    clear hOK hK hA hB HK4 HA4 HB4
    by_cases hlt : c < fn
    · obtain ⟨ad, rfl, hadb, hcl⟩ := strs_at (HF.out.below HBo.out) (fun _ => rfl) HLf.out hlt ft0
      have hww : -9223372036854775808 ≤ (l.getD c ft0).nn ∧ (l.getD c ft0).nn ≤ 9223372036854775807 := HW.out _ (by
        have hl : c < l.length := by rw [HLf.out]; exact hlt
        simp [List.getElem?_eq_getElem hl])
      generalize l.getD c ft0 = q at *
      obtain ⟨kd, nn⟩ := q
      obtain ⟨hw0, hw1⟩ := hww
      have HCl : Hid (∀ i u, ([.int .i64 kd, .int .i64 nn] : List Value)[i]? = some u → wo.cell? ((ad.add (c * 2)).add i) = some u) := hcl
      clear hcl hadb
      go_upto_block 2 with (refine wpList_load_at 38 (.tmp 45) rfl rfl (ad.add (c * 2)) rfl [.int .i64 kd, .int .i64 nn] HCl.out _ Try.underlying38 rfl (by kernel_rfl) ?_)
      have HBw5 := (Blk.new wo 38 #[.int .i64 kd, .int .i64 nn])
      have HLw5 := (below_new wo (.cells #[.int .i64 kd, .int .i64 nn] 38))
      have hsw5 : (wo.alloc (.cells #[.int .i64 kd, .int .i64 nn] 38)).heap.size = wo.heap.size + 1 := by simp
      generalize wo.alloc (.cells #[.int .i64 kd, .int .i64 nn] 38) = w5 at HBw5 HLw5 hsw5 ⊢
      replace HBw5 := Lib.hid HBw5
      replace HLw5 := Lib.hid HLw5
      have hlw5 : wo.heap.size < w5.heap.size := by omega
      replace hsw5 := Lib.hid hsw5
      have HT5 := HBw5
      have HK5 := Lib.hid (HKo.out.now HLw5.out)
      have HA5 := Lib.hid (HAo.out.now HLw5.out)
      have HB5 : Hid (Below w.heap.size w w5) := hide (HBo.out.trans (HLw5.out.mono HBo.out.size))
      have f0 : w5.cell? ⟨wo.heap.size, 0, none⟩ = some (.int .i64 kd) := HT5.out.cell 0
      have f1 : w5.cell? ⟨wo.heap.size, 1, none⟩ = some (.int .i64 nn) := HT5.out.cell 1
      have hge : g ≠ wo.heap.size := by omega
      have hwe : w.heap.size ≤ wo.heap.size := by omega
      clear HBw5 HLw5 hsw5 hlw5 HKo HAo HBo HCl
      generalize wo.heap.size = gf at *
      go_cut [9, 10, 11, 12, 13, 14] (fun _ _ _ _ _ _ wx => ∃ x' : Lk, OKL an x' ∧ LkAt wx g an x' ∧ Blk wx gf 38 #[.int .i64 kd, .int .i64 nn] ∧ OwnRd wx 0 (.slice aA an ac) (rdsN 1 an) ∧ Below w.heap.size w wx)
      case first =>
        as_aux_lemma =>
          obtain ⟨pbA, pbc, mbA, mbn, mbc, nb, obA, obn, obc, kb, gbA, gbn, gbc, ebA, ebn, ebc, hX, hV, hmb, hob, hgb⟩ := HK5.out
          have HXb := Lib.hid hX
          have HVb := Lib.hid hV
          clear hX hV HK5
          by_cases h0 : kd = 0
          · subst h0
            go_wp2_with (refine wpList_load_blk rfl 34 (.tmp 5) rfl g rfl _ _ HXb.out _ Try.underlying34 rfl (by kernel_rfl) ?_)
            with_reducible refine (arrive_any an x nn _ w5 HOK.out HVb.out).mono ?_
            rintro e w6 ⟨v6, rfl, hv6, hb6⟩
            obtain ⟨pdA, pdc, mdA, mdn, mdc, nd, odA, odn, odc, kd, gdA, gdn, gdc, edA, edn, edc, rfl, hmd, hod, hgd⟩ := hv6.parts2
            have HX6 := Lib.hid (HXb.out.below hb6 HXb.out.lt)
            have HV6 := Lib.hid hv6
            have HT6 := Lib.hid (HT5.out.below hb6 HT5.out.lt)
            have HA6 := Lib.hid (HA5.out.now hb6)
            have HB6 : Hid (Below w.heap.size w w6) := hide (HB5.out.trans (hb6.mono HB5.out.size))
            clear hb6 hv6
            go_wp2_with
              (refine wpList_store_blk rfl 34 (.tmp 5) (.tmp 54) rfl g #[.slice pdA 2 pdc, .slice mdA mdn mdc, .int .i64 4, .int .i64 nd, .slice odA odn odc, .int .i64 4, .int .i64 kd, .slice gdA gdn gdc, .slice edA edn edc, .bool true] rfl rfl _ _ HX6.out (by kernel_rfl) rfl (by simp [Value.oneCell']) ?_
               intro w7 hx7 hon7
               have HX7 := Lib.hid hx7
               have HV7 := Lib.hid (HV6.out.onlyT hon7 HX6.out (by decide) (by decide) (by decide) (by decide))
               have HT7 := Lib.hid (hon7.blk HT6.out (Ne.symm hge))
               have HA7 := Lib.hid (HA6.out.onlyT hon7 HX6.out (by decide))
               have HB7 : Hid (Below w.heap.size w w7) := hide (hon7.below HB6.out hgw)
               clear hx7 hon7)
            go_meet
            case rel => exact ⟨arriveN x nn, HOK.out.arrive nn, ⟨pdA, pdc, mdA, mdn, mdc, nd, odA, odn, odc, kd, gdA, gdn, gdc, edA, edn, edc, HX7.out, HV7.out, hmd, hod, hgd⟩, HT7.out, HA7.out, HB7.out⟩
          by_cases h1 : kd = 1
          · subst h1
            go_wp2_with (refine wpList_load_at 27 (.tmp 58) rfl rfl ⟨g, 0, none⟩ rfl [.slice pbA 2 pbc, .slice mbA mbn mbc] (HXb.out.part 0 _ rfl) _ Try.underlying27 rfl (by kernel_rfl) ?_)
            with_reducible refine (lose_ms an x nn pbA pbc mbA mbn mbc w5 HOK.out HVb.out.netO.1).mono ?_
            rintro e w6 ⟨r, qA, qn, qc, rA, rn, rc, rfl, hb6, hr⟩
            have HX6 := Lib.hid (HXb.out.below hb6 HXb.out.lt)
            have HV6 := Lib.hid (HVb.out.now hb6)
            have HT6 := Lib.hid (HT5.out.below hb6 HT5.out.lt)
            have HA6 := Lib.hid (HA5.out.now hb6)
            have HB6 : Hid (Below w.heap.size w w6) := hide (HB5.out.trans (hb6.mono HB5.out.size))
            clear hb6
            rcases hr with ⟨rfl, rfl, hn6⟩ | ⟨hr0, _⟩
            · have HM6 := Lib.hid hn6
              clear hn6
              go_upto_region 16 with (fail)
              have HBw7 := (Blk.new w6 27 #[.slice qA 2 qc, .slice rA rn rc])
              have HLw7 := (below_new w6 (.cells #[.slice qA 2 qc, .slice rA rn rc] 27))
              have hsw7 : (w6.alloc (.cells #[.slice qA 2 qc, .slice rA rn rc] 27)).heap.size = w6.heap.size + 1 := by simp
              generalize w6.alloc (.cells #[.slice qA 2 qc, .slice rA rn rc] 27) = w7 at HBw7 HLw7 hsw7 ⊢
              replace HBw7 := Lib.hid HBw7
              replace HLw7 := Lib.hid HLw7
              have hlw7 : w6.heap.size < w7.heap.size := by omega
              replace hsw7 := Lib.hid hsw7
              have HX7 := Lib.hid (HX6.out.below HLw7.out HX6.out.lt)
              have HV7 := Lib.hid (HV6.out.now HLw7.out)
              have HT7 := Lib.hid (HT6.out.below HLw7.out HT6.out.lt)
              have HA7 := Lib.hid (HA6.out.now HLw7.out)
              have HM7 := Lib.hid (HM6.out.now HLw7.out)
              have HB7 : Hid (Below w.heap.size w w7) := hide (HB6.out.trans (HLw7.out.mono HB6.out.size))
              go_wp2_with
                (first
                 | (refine wpList_load_blk rfl 27 (.tmp 9) rfl w6.heap.size rfl _ _ HBw7.out _ Try.underlying27 rfl (by kernel_rfl) ?_)
                 | (refine wpList_store_part 27 (.tmp 68) (.tmp 67) rfl rfl g 0 #[.slice qA 2 qc, .slice rA rn rc] rfl rfl 34 _ HX7.out (by kernel_rfl) (by simp) (by simp [Value.oneCell']) #[.slice qA 2 qc, .slice rA rn rc, .int .i64 4, .int .i64 nb, .slice obA obn obc, .int .i64 4, .int .i64 kb, .slice gbA gbn gbc, .slice ebA ebn ebc, .bool true] rfl ?_
                    intro w8 hx8 hon8
                    have HX8 := Lib.hid hx8
                    have HV8 := Lib.hid ((HV7.out.onlyT hon8 HX7.out (by decide) (by decide) (by decide) (by decide)).net (HM7.out.onlyT hon8 HX7.out (by decide) (by decide) (by decide)))
                    have HT8 := Lib.hid (hon8.blk HT7.out (Ne.symm hge))
                    have HA8 := Lib.hid (HA7.out.onlyT hon8 HX7.out (by decide))
                    have HB8 : Hid (Below w.heap.size w w8) := hide (hon8.below HB7.out hgw)
                    clear hx8 hon8))
              go_meet
              case rel => exact ⟨⟨x.a, x.k, x.early, loseN x.mail nn, x.p⟩, loseN_ok HOK.out nn, LkAt.mk' HV8.out rfl HX8.out, HT8.out, HA8.out, HB8.out⟩
            · go_upto_region 16 with (fail)
              have HBw7 := (Blk.new w6 27 #[.slice qA qn qc, .slice rA rn rc])
              have HLw7 := (below_new w6 (.cells #[.slice qA qn qc, .slice rA rn rc] 27))
              have hsw7 : (w6.alloc (.cells #[.slice qA qn qc, .slice rA rn rc] 27)).heap.size = w6.heap.size + 1 := by simp
              generalize w6.alloc (.cells #[.slice qA qn qc, .slice rA rn rc] 27) = w7 at HBw7 HLw7 hsw7 ⊢
              replace HBw7 := Lib.hid HBw7
              replace HLw7 := Lib.hid HLw7
              have hlw7 : w6.heap.size < w7.heap.size := by omega
              replace hsw7 := Lib.hid hsw7
              have HX7 := Lib.hid (HX6.out.below HLw7.out HX6.out.lt)
              have HV7 := Lib.hid (HV6.out.now HLw7.out)
              have HT7 := Lib.hid (HT6.out.below HLw7.out HT6.out.lt)
              have HA7 := Lib.hid (HA6.out.now HLw7.out)
              have HB7 : Hid (Below w.heap.size w w7) := hide (HB6.out.trans (HLw7.out.mono HB6.out.size))
              go_wp2_with fail
              go_meet
              case rel => exact ⟨x, HOK.out, ⟨pbA, pbc, mbA, mbn, mbc, nb, obA, obn, obc, kb, gbA, gbn, gbc, ebA, ebn, ebc, HX7.out, HV7.out, hmb, hob, hgb⟩, HT7.out, HA7.out, HB7.out⟩
          by_cases h2 : kd = 2
          · subst h2
            go_wp2_with (refine wpList_load_at 27 (.tmp 72) rfl rfl ⟨g, 0, none⟩ rfl [.slice pbA 2 pbc, .slice mbA mbn mbc] (HXb.out.part 0 _ rfl) _ Try.underlying27 rfl (by kernel_rfl) ?_)
            with_reducible refine (copy_ms an x nn pbA pbc mbA mbn mbc w5 HOK.out HVb.out.netO.1).mono ?_
            rintro e w6 ⟨r, qA, qn, qc, rA, rn, rc, rfl, hb6, hr⟩
            have HX6 := Lib.hid (HXb.out.below hb6 HXb.out.lt)
            have HV6 := Lib.hid (HVb.out.now hb6)
            have HT6 := Lib.hid (HT5.out.below hb6 HT5.out.lt)
            have HA6 := Lib.hid (HA5.out.now hb6)
            have HB6 : Hid (Below w.heap.size w w6) := hide (HB5.out.trans (hb6.mono HB5.out.size))
            clear hb6
            rcases hr with ⟨rfl, rfl, hn6⟩ | ⟨hr0, _⟩
            · have HM6 := Lib.hid hn6
              clear hn6
              go_upto_region 20 with (fail)
              have HBw7 := (Blk.new w6 27 #[.slice qA 2 qc, .slice rA rn rc])
              have HLw7 := (below_new w6 (.cells #[.slice qA 2 qc, .slice rA rn rc] 27))
              have hsw7 : (w6.alloc (.cells #[.slice qA 2 qc, .slice rA rn rc] 27)).heap.size = w6.heap.size + 1 := by simp
              generalize w6.alloc (.cells #[.slice qA 2 qc, .slice rA rn rc] 27) = w7 at HBw7 HLw7 hsw7 ⊢
              replace HBw7 := Lib.hid HBw7
              replace HLw7 := Lib.hid HLw7
              have hlw7 : w6.heap.size < w7.heap.size := by omega
              replace hsw7 := Lib.hid hsw7
              have HX7 := Lib.hid (HX6.out.below HLw7.out HX6.out.lt)
              have HV7 := Lib.hid (HV6.out.now HLw7.out)
              have HT7 := Lib.hid (HT6.out.below HLw7.out HT6.out.lt)
              have HA7 := Lib.hid (HA6.out.now HLw7.out)
              have HM7 := Lib.hid (HM6.out.now HLw7.out)
              have HB7 : Hid (Below w.heap.size w w7) := hide (HB6.out.trans (HLw7.out.mono HB6.out.size))
              go_wp2_with
                (first
                 | (refine wpList_load_blk rfl 27 (.tmp 11) rfl w6.heap.size rfl _ _ HBw7.out _ Try.underlying27 rfl (by kernel_rfl) ?_)
                 | (refine wpList_store_part 27 (.tmp 82) (.tmp 81) rfl rfl g 0 #[.slice qA 2 qc, .slice rA rn rc] rfl rfl 34 _ HX7.out (by kernel_rfl) (by simp) (by simp [Value.oneCell']) #[.slice qA 2 qc, .slice rA rn rc, .int .i64 4, .int .i64 nb, .slice obA obn obc, .int .i64 4, .int .i64 kb, .slice gbA gbn gbc, .slice ebA ebn ebc, .bool true] rfl ?_
                    intro w8 hx8 hon8
                    have HX8 := Lib.hid hx8
                    have HV8 := Lib.hid ((HV7.out.onlyT hon8 HX7.out (by decide) (by decide) (by decide) (by decide)).net (HM7.out.onlyT hon8 HX7.out (by decide) (by decide) (by decide)))
                    have HT8 := Lib.hid (hon8.blk HT7.out (Ne.symm hge))
                    have HA8 := Lib.hid (HA7.out.onlyT hon8 HX7.out (by decide))
                    have HB8 : Hid (Below w.heap.size w w8) := hide (hon8.below HB7.out hgw)
                    clear hx8 hon8))
              go_meet
              case rel => exact ⟨⟨x.a, x.k, x.early, copyN x.mail nn, x.p⟩, copyN_ok HOK.out nn, LkAt.mk' HV8.out rfl HX8.out, HT8.out, HA8.out, HB8.out⟩
            · go_upto_region 20 with (fail)
              have HBw7 := (Blk.new w6 27 #[.slice qA qn qc, .slice rA rn rc])
              have HLw7 := (below_new w6 (.cells #[.slice qA qn qc, .slice rA rn rc] 27))
              have hsw7 : (w6.alloc (.cells #[.slice qA qn qc, .slice rA rn rc] 27)).heap.size = w6.heap.size + 1 := by simp
              generalize w6.alloc (.cells #[.slice qA qn qc, .slice rA rn rc] 27) = w7 at HBw7 HLw7 hsw7 ⊢
              replace HBw7 := Lib.hid HBw7
              replace HLw7 := Lib.hid HLw7
              have hlw7 : w6.heap.size < w7.heap.size := by omega
              replace hsw7 := Lib.hid hsw7
              have HX7 := Lib.hid (HX6.out.below HLw7.out HX6.out.lt)
              have HV7 := Lib.hid (HV6.out.now HLw7.out)
              have HT7 := Lib.hid (HT6.out.below HLw7.out HT6.out.lt)
              have HA7 := Lib.hid (HA6.out.now HLw7.out)
              have HB7 : Hid (Below w.heap.size w w7) := hide (HB6.out.trans (HLw7.out.mono HB6.out.size))
              go_wp2_with fail
              go_meet
              case rel => exact ⟨x, HOK.out, ⟨pbA, pbc, mbA, mbn, mbc, nb, obA, obn, obc, kb, gbA, gbn, gbc, ebA, ebn, ebc, HX7.out, HV7.out, hmb, hob, hgb⟩, HT7.out, HA7.out, HB7.out⟩
          by_cases h3 : kd = 3
          · subst h3
            go_wp2_with (refine wpList_load_at 27 (.tmp 86) rfl rfl ⟨g, 0, none⟩ rfl [.slice pbA 2 pbc, .slice mbA mbn mbc] (HXb.out.part 0 _ rfl) _ Try.underlying27 rfl (by kernel_rfl) ?_)
            have hqq := and_one nn
            generalize bits .and .i64 nn 1 = qp at *
            have HBw6 := (Blk.new w5 3 #[.int .i64 0, .int .i64 qp])
            have HLw6 := (below_new w5 (.cells #[.int .i64 0, .int .i64 qp] 3))
            have hsw6 : (w5.alloc (.cells #[.int .i64 0, .int .i64 qp] 3)).heap.size = w5.heap.size + 1 := by simp
            generalize w5.alloc (.cells #[.int .i64 0, .int .i64 qp] 3) = w6 at HBw6 HLw6 hsw6 ⊢
            replace HBw6 := Lib.hid HBw6
            replace HLw6 := Lib.hid HLw6
            have hlw6 : w5.heap.size < w6.heap.size := by omega
            replace hsw6 := Lib.hid hsw6
            with_reducible refine (split_ms an x qp w5.heap.size pbA pbc mbA mbn mbc w6 HOK.out (HVb.out.now HLw6.out).netO.1 hqq HBw6.out).mono ?_
            rintro e w7 ⟨qA, qc, rA, rn, rc, rfl, hb7, hn7⟩
            have HL7 : Hid (Below w5.heap.size w5 w7) := hide (HLw6.out.trans (hb7.mono HLw6.out.size))
            have HX7 := Lib.hid (HXb.out.below HL7.out HXb.out.lt)
            have HV7 := Lib.hid (HVb.out.now HL7.out)
            have HT7 := Lib.hid (HT5.out.below HL7.out HT5.out.lt)
            have HA7 := Lib.hid (HA5.out.now HL7.out)
            have HB7 : Hid (Below w.heap.size w w7) := hide (HB5.out.trans (HL7.out.mono HB5.out.size))
            have HM7 := Lib.hid hn7
            clear hb7 hn7 HLw6 HBw6 hsw6 HL7
            go_upto_region 24 with (fail)
            have HBw8 := (Blk.new w7 27 #[.slice qA 2 qc, .slice rA rn rc])
            have HLw8 := (below_new w7 (.cells #[.slice qA 2 qc, .slice rA rn rc] 27))
            have hsw8 : (w7.alloc (.cells #[.slice qA 2 qc, .slice rA rn rc] 27)).heap.size = w7.heap.size + 1 := by simp
            generalize w7.alloc (.cells #[.slice qA 2 qc, .slice rA rn rc] 27) = w8 at HBw8 HLw8 hsw8 ⊢
            replace HBw8 := Lib.hid HBw8
            replace HLw8 := Lib.hid HLw8
            have hlw8 : w7.heap.size < w8.heap.size := by omega
            replace hsw8 := Lib.hid hsw8
            have HX8 := Lib.hid (HX7.out.below HLw8.out HX7.out.lt)
            have HV8 := Lib.hid (HV7.out.now HLw8.out)
            have HT8 := Lib.hid (HT7.out.below HLw8.out HT7.out.lt)
            have HA8 := Lib.hid (HA7.out.now HLw8.out)
            have HM8 := Lib.hid (HM7.out.now HLw8.out)
            have HB8 : Hid (Below w.heap.size w w8) := hide (HB7.out.trans (HLw8.out.mono HB7.out.size))
            go_wp2_with
              (first
               | (refine wpList_load_blk rfl 27 (.tmp 13) rfl w7.heap.size rfl _ _ HBw8.out _ Try.underlying27 rfl (by kernel_rfl) ?_)
               | (refine wpList_store_part 27 (.tmp 98) (.tmp 97) rfl rfl g 0 #[.slice qA 2 qc, .slice rA rn rc] rfl rfl 34 _ HX8.out (by kernel_rfl) (by simp) (by simp [Value.oneCell']) #[.slice qA 2 qc, .slice rA rn rc, .int .i64 4, .int .i64 nb, .slice obA obn obc, .int .i64 4, .int .i64 kb, .slice gbA gbn gbc, .slice ebA ebn ebc, .bool true] rfl ?_
                  intro w9 hx9 hon9
                  have HX9 := Lib.hid hx9
                  have HV9 := Lib.hid ((HV8.out.onlyT hon9 HX8.out (by decide) (by decide) (by decide) (by decide)).net (HM8.out.onlyT hon9 HX8.out (by decide) (by decide) (by decide)))
                  have HT9 := Lib.hid (hon9.blk HT8.out (Ne.symm hge))
                  have HA9 := Lib.hid (HA8.out.onlyT hon9 HX8.out (by decide))
                  have HB9 : Hid (Below w.heap.size w w9) := hide (hon9.below HB8.out hgw)
                  clear hx9 hon9))
            go_meet
            case rel => exact ⟨⟨x.a, x.k, x.early, x.mail, qp⟩, HOK.out.part hqq, LkAt.mk' HV9.out rfl HX9.out, HT9.out, HA9.out, HB9.out⟩
          by_cases h4 : kd = 4
          · subst h4
            have m1 : w5.cell? ⟨g, 1, none⟩ = some (.slice mbA mbn mbc) := HXb.out.cell 1
            by_cases hm : mbn < 100
            · have hm' : (mbn : Int) < 100 := by omega
              go_wp2_with (refine wpList_load_blk rfl 34 (.tmp 5) rfl g rfl _ _ HXb.out _ Try.underlying34 rfl (by kernel_rfl) ?_)
              with_reducible refine (upload_any an x _ w5 HOK.out HVb.out).mono ?_
              rintro e w6 ⟨v6, rfl, hv6, hb6⟩
              obtain ⟨pdA, pdc, mdA, mdn, mdc, nd, odA, odn, odc, kd, gdA, gdn, gdc, edA, edn, edc, rfl, hmd, hod, hgd⟩ := hv6.parts2
              have HX6 := Lib.hid (HXb.out.below hb6 HXb.out.lt)
              have HV6 := Lib.hid hv6
              have HT6 := Lib.hid (HT5.out.below hb6 HT5.out.lt)
              have HA6 := Lib.hid (HA5.out.now hb6)
              have HB6 : Hid (Below w.heap.size w w6) := hide (HB5.out.trans (hb6.mono HB5.out.size))
              clear hb6 hv6
              go_wp2_with
                (refine wpList_store_blk rfl 34 (.tmp 5) (.tmp 107) rfl g #[.slice pdA 2 pdc, .slice mdA mdn mdc, .int .i64 4, .int .i64 nd, .slice odA odn odc, .int .i64 4, .int .i64 kd, .slice gdA gdn gdc, .slice edA edn edc, .bool true] rfl rfl _ _ HX6.out (by kernel_rfl) rfl (by simp [Value.oneCell']) ?_
                 intro w7 hx7 hon7
                 have HX7 := Lib.hid hx7
                 have HV7 := Lib.hid (HV6.out.onlyT hon7 HX6.out (by decide) (by decide) (by decide) (by decide))
                 have HT7 := Lib.hid (hon7.blk HT6.out (Ne.symm hge))
                 have HA7 := Lib.hid (HA6.out.onlyT hon7 HX6.out (by decide))
                 have HB7 : Hid (Below w.heap.size w w7) := hide (hon7.below HB6.out hgw)
                 clear hx7 hon7)
              go_meet
              case rel => exact ⟨uploadN an x, HOK.out.upload, ⟨pdA, pdc, mdA, mdn, mdc, nd, odA, odn, odc, kd, gdA, gdn, gdc, edA, edn, edc, HX7.out, HV7.out, hmd, hod, hgd⟩, HT7.out, HA7.out, HB7.out⟩
            · have hm' : ¬ ((mbn : Int) < 100) := by omega
              go_wp2_with fail
              go_meet
              case rel => exact ⟨x, HOK.out, ⟨pbA, pbc, mbA, mbn, mbc, nb, obA, obn, obc, kb, gbA, gbn, gbc, ebA, ebn, ebc, HXb.out, HVb.out, hmb, hob, hgb⟩, HT5.out, HA5.out, HB5.out⟩
          have b0 : (kd == 0) = false := by simp [h0]
          have b1 : (kd == 1) = false := by simp [h1]
          have b2 : (kd == 2) = false := by simp [h2]
          have b3 : (kd == 3) = false := by simp [h3]
          have b4 : (kd == 4) = false := by simp [h4]
          clear h0 h1 h2 h3 h4
          go_wp2_with fail
          go_meet
          case rel => exact ⟨x, HOK.out, ⟨pbA, pbc, mbA, mbn, mbc, nb, obA, obn, obc, kb, gbA, gbn, gbc, ebA, ebn, ebc, HXb.out, HVb.out, hmb, hob, hgb⟩, HT5.out, HA5.out, HB5.out⟩
      obtain ⟨y, hOy, hKy, hTy, hAy, hBy⟩ := hcut
      obtain ⟨wb, rfl⟩ : ∃ W : World, W = wc := ⟨_, rfl⟩
      obtain ⟨pyA, pyc, myA, myn, myc, ny, oyA, oyn, oyc, ky, gyA, gyn, gyc, eyA, eyn, eyc, hX, hV, hmy, hoy, hgy⟩ := hKy
      have HOy := Lib.hid hOy
      have HXy := Lib.hid hX
      have HVy := Lib.hid hV
      have HTy := Lib.hid hTy
      have HAy := Lib.hid hAy
      have HBy := Lib.hid hBy
      have hkn : y.k ≤ an := hOy.inv.kn
      clear hX hV hOy hTy hAy hBy HOK HK5 HT5 HA5 HB5 f0 f1
      have hgk : gyn ≤ an := by rw [hgy.out]; exact hkn
      obtain ⟨aA', an', ac', e1, _, has⟩ := HAy.out.parts
      injection e1 with e1 e2 e3
      subst e1 e2 e3
      have hac : an ≤ ac := by
        obtain ⟨aA', an', ac', e1, _, hc', _, _⟩ := (OwnRd.strV HAy.out).nam
        injection e1 with e1 e2 e3
        omega
      have HRt : Hid (∀ W, Below wb.heap.size wb W → Calls Try.prog 12 #[.agg #[.int .i64 4, .int .i64 ny, .slice oyA oyn oyc], .agg #[.int .i64 4, .int .i64 ky, .slice gyA gyn gyc, .slice eyA eyn eyc]] W (BoR true W)) := fun W hW => right_ms an y _ _ _ _ _ _ _ _ _ _ W HOy.out (HVy.out.now hW)
      have HSm : Hid (∀ W, Below wb.heap.size wb W → Calls Try.prog 13 #[.slice gyA gyn gyc, .slice aA gyn ac] W (BoR true W)) := fun W hW => by
        obtain ⟨gA', gn', gc', e1, hl1, hgs⟩ := (HVy.out.now hW).netO.2.2.1.parts
        injection e1 with e1 e2 e3
        subst e1 e2 e3
        have hs2 := strs_front (has.now hW) (fun _ => rfl) HLa.out hgk
        rw [rdsN_take hgk] at hs2
        rw [show y.k = gyn from hgy.out.symm] at hl1 hgs
        exact same_any gyA gyn gyc aA ac _ W hgs hl1 hs2 (by omega)
      clear has
      have s0 : wb.drew.cell? ⟨g, 9, none⟩ = some (.bool true) := HXy.out.cell 9
      have hS : Blk wb.drew g 34 #[.slice pyA 2 pyc, .slice myA myn myc, .int .i64 4, .int .i64 ny, .slice oyA oyn oyc, .int .i64 4, .int .i64 ky, .slice gyA gyn gyc, .slice eyA eyn eyc, .bool true] ∧ wb.drew.cell? ⟨g, 9, none⟩ = some (.bool true) ∧ wb.drew.cell? ⟨g, 7, none⟩ = some (.slice gyA gyn gyc) := ⟨HXy.out, s0, HXy.out.cell 7⟩
      have hslc := slc_rd aA an ac gyn (by omega)
      have d4 : decide ((gyn : Int) > (an : Int)) = false := decide_eq_false (by omega)
      have d5 : decide ((an : Int) < (gyn : Int)) = false := decide_eq_false (by omega)
      have d6 : decide (an < gyn) = false := decide_eq_false (by omega)
      go_upto_region 30 with (fail)
      have hgb : g < wb.heap.size := HXy.out.lt
      refine wp_region_held_drew (S := fun W => Blk W g 34 #[.slice pyA 2 pyc, .slice myA myn myc, .int .i64 4, .int .i64 ny, .slice oyA oyn oyc, .int .i64 4, .int .i64 ky, .slice gyA gyn gyc, .slice eyA eyn eyc, .bool true] ∧ W.cell? ⟨g, 9, none⟩ = some (.bool true) ∧ W.cell? ⟨g, 7, none⟩ = some (.slice gyA gyn gyc)) (by kernel_rfl) (hS) (fun hHeld => ?_)
      refine held_run 0 (some 108) (.fieldAddr 34 (.tmp 5) 3) ?v30_1_2 (by rfl) (by kernel_rfl) (by kernel_rfl) (by kernel_rfl) (fun _ _ _ h => h) (fun o ho w hS => ?y30_1_2) (by assumption) ?r30_1_2
      case y30_1_2 => (try dsimp only at hS); unfold execOp; simp only [ho]; go_simp; try with_reducible rfl
      try simp only [Act.put, List.setIfInBounds_toArray, List.set_cons_zero, List.set_cons_succ]
      refine held_run 1 (some 109) (.load 4 (.tmp 108)) ?v30_1_3 (by rfl) (by kernel_rfl) (by kernel_rfl) (by kernel_rfl) (fun _ _ _ h => h) (fun o ho w hS => ?y30_1_3) (by assumption) ?r30_1_3
      case y30_1_3 => (try dsimp only at hS); unfold execOp; simp only [ho]; go_simp; try with_reducible rfl
      try simp only [Act.put, List.setIfInBounds_toArray, List.set_cons_zero, List.set_cons_succ]
      refine held_run 2 (some 110) (.unOp .not 4 (.tmp 109)) ?v30_1_4 (by rfl) (by kernel_rfl) (by kernel_rfl) (by kernel_rfl) (fun _ _ _ h => h) (fun o ho w hS => ?y30_1_4) (by assumption) ?r30_1_4
      case y30_1_4 => (try dsimp only at hS); unfold execOp; simp only [ho]; go_simp; try with_reducible rfl
      try simp only [Act.put, List.setIfInBounds_toArray, List.set_cons_zero, List.set_cons_succ]
      refine held_run 3 (some 111) (.move (.tmp 110)) ?v30_1_5 (by rfl) (by kernel_rfl) (by kernel_rfl) (by kernel_rfl) (fun _ _ _ h => h) (fun o ho w hS => ?y30_1_5) (by assumption) ?r30_1_5
      case y30_1_5 => (try dsimp only at hS); unfold execOp; simp only [ho]; go_simp; try with_reducible rfl
      try simp only [Act.put, List.setIfInBounds_toArray, List.set_cons_zero, List.set_cons_succ]
      refine held_run 4 (some 112) (.fieldAddr 34 (.tmp 5) 1) ?v30_1_6 (by rfl) (by kernel_rfl) (by kernel_rfl) (by kernel_rfl) (fun _ _ _ h => h) (fun o ho w hS => ?y30_1_6) (by assumption) ?r30_1_6
      case y30_1_6 => (try dsimp only at hS); unfold execOp; simp only [ho]; go_simp; try with_reducible rfl
      try simp only [Act.put, List.setIfInBounds_toArray, List.set_cons_zero, List.set_cons_succ]
      refine held_load_at 5 (some 113) 30 (.tmp 112) (by rfl) (by kernel_rfl) (by kernel_rfl) (by kernel_rfl) ((⟨g, 2, none⟩ : Addr)) ([.int .i64 4, .int .i64 ny, .slice oyA oyn oyc] : List Value) (fun _ _ _ h => h) (by rfl) (fun _ h => h.1.part 2 _ rfl) _ Try.underlying30 rfl (by kernel_rfl) (by assumption) ?_
      try simp only [Act.put, List.setIfInBounds_toArray, List.set_cons_zero, List.set_cons_succ]
      refine held_run 6 (some 114) (.fieldAddr 34 (.tmp 5) 2) ?v30_1_8 (by rfl) (by kernel_rfl) (by kernel_rfl) (by kernel_rfl) (fun _ _ _ h => h) (fun o ho w hS => ?y30_1_8) (by assumption) ?r30_1_8
      case y30_1_8 => (try dsimp only at hS); unfold execOp; simp only [ho]; go_simp; try with_reducible rfl
      try simp only [Act.put, List.setIfInBounds_toArray, List.set_cons_zero, List.set_cons_succ]
      refine held_load_at 7 (some 115) 32 (.tmp 114) (by rfl) (by kernel_rfl) (by kernel_rfl) (by kernel_rfl) ((⟨g, 5, none⟩ : Addr)) ([.int .i64 4, .int .i64 ky, .slice gyA gyn gyc, .slice eyA eyn eyc] : List Value) (fun _ _ _ h => h) (by rfl) (fun _ h => h.1.part 5 _ rfl) _ Try.underlying32 rfl (by kernel_rfl) (by assumption) ?_
      try simp only [Act.put, List.setIfInBounds_toArray, List.set_cons_zero, List.set_cons_succ]
      refine held_call 8 (some 116) 12 [(.tmp 113), (.tmp 115)] #[30, 32] #[.agg #[.int .i64 4, .int .i64 ny, .slice oyA oyn oyc], .agg #[.int .i64 4, .int .i64 ky, .slice gyA gyn gyc, .slice eyA eyn eyc]] (by rfl) (by rfl) (by kernel_rfl) Try.func12 (by rfl) (by rfl) ?_
      refine (HRt.out _ (Below.refl _ _).drew).mono ?_
      rintro e w10 ⟨rfl, hb10⟩
      have HL10 : Hid (Below wb.heap.size wb w10) := hide ((Below.refl _ _).drew.trans hb10)
      have hX10 := hS.1.below hb10 hgb
      have hHk : Blk w10 g 34 #[.slice pyA 2 pyc, .slice myA myn myc, .int .i64 4, .int .i64 ny, .slice oyA oyn oyc, .int .i64 4, .int .i64 ky, .slice gyA gyn gyc, .slice eyA eyn eyc, .bool true] ∧ w10.cell? ⟨g, 9, none⟩ = some (.bool true) ∧ w10.cell? ⟨g, 7, none⟩ = some (.slice gyA gyn gyc) := ⟨hX10, hX10.cell 9, hX10.cell 7⟩
      clear hb10
      refine ⟨_, rfl, hHk, ?_⟩
      try simp only [Act.put, List.setIfInBounds_toArray, List.set_cons_zero, List.set_cons_succ]
      refine held_run 9 (some 117) (.unOp .not 4 (.tmp 116)) ?v30_1_11 (by rfl) (by kernel_rfl) (by kernel_rfl) (by kernel_rfl) (fun _ _ _ h => h) (fun o ho w hS => ?y30_1_11) (by assumption) ?r30_1_11
      case y30_1_11 => (try dsimp only at hS); unfold execOp; simp only [ho]; go_simp; try with_reducible rfl
      try simp only [Act.put, List.setIfInBounds_toArray, List.set_cons_zero, List.set_cons_succ]
      refine held_run 10 (some 118) (.pick (.tmp 111) (.const (Value.bool true)) (.tmp 117)) ?v30_1_12 (by rfl) (by kernel_rfl) (by kernel_rfl) (by kernel_rfl) (fun _ _ _ h => h) (fun o ho w hS => ?y30_1_12) (by assumption) ?r30_1_12
      case y30_1_12 => (try dsimp only at hS); unfold execOp; simp only [ho]; go_simp; try with_reducible rfl
      try simp only [Act.put, List.setIfInBounds_toArray, List.set_cons_zero, List.set_cons_succ]
      refine held_run 11 (some 119) (.move (.tmp 118)) ?v30_1_13 (by rfl) (by kernel_rfl) (by kernel_rfl) (by kernel_rfl) (fun _ _ _ h => h) (fun o ho w hS => ?y30_1_13) (by assumption) ?r30_1_13
      case y30_1_13 => (try dsimp only at hS); unfold execOp; simp only [ho]; go_simp; try with_reducible rfl
      try simp only [Act.put, List.setIfInBounds_toArray, List.set_cons_zero, List.set_cons_succ]
      refine held_run 12 (some 120) (.fieldAddr 34 (.tmp 5) 2) ?v30_1_14 (by rfl) (by kernel_rfl) (by kernel_rfl) (by kernel_rfl) (fun _ _ _ h => h) (fun o ho w hS => ?y30_1_14) (by assumption) ?r30_1_14
      case y30_1_14 => (try dsimp only at hS); unfold execOp; simp only [ho]; go_simp; try with_reducible rfl
      try simp only [Act.put, List.setIfInBounds_toArray, List.set_cons_zero, List.set_cons_succ]
      refine held_run 13 (some 121) (.fieldAddr 32 (.tmp 120) 2) ?v30_1_15 (by rfl) (by kernel_rfl) (by kernel_rfl) (by kernel_rfl) (fun _ _ _ h => h) (fun o ho w hS => ?y30_1_15) (by assumption) ?r30_1_15
      case y30_1_15 => (try dsimp only at hS); unfold execOp; simp only [ho]; go_simp; try with_reducible rfl
      try simp only [Act.put, List.setIfInBounds_toArray, List.set_cons_zero, List.set_cons_succ]
      refine held_run 14 (some 122) (.load 28 (.tmp 121)) ?v30_1_16 (by rfl) (by kernel_rfl) (by kernel_rfl) (by kernel_rfl) (fun _ _ _ h => h) (fun o ho w hS => ?y30_1_16) (by assumption) ?r30_1_16
      case y30_1_16 => (try dsimp only at hS); unfold execOp; simp only [ho]; go_simp; try with_reducible rfl
      try simp only [Act.put, List.setIfInBounds_toArray, List.set_cons_zero, List.set_cons_succ]
      refine held_run 15 (some 123) (.call { callee := .builtin .len, args := #[(.tmp 122)], argTypes := #[28] }) ?v30_1_17 (by rfl) (by kernel_rfl) (by kernel_rfl) (by kernel_rfl) (fun _ _ _ h => h) (fun o ho w hS => ?y30_1_17) (by assumption) ?r30_1_17
      case y30_1_17 => (try dsimp only at hS); unfold execOp; simp only [ho]; go_simp; try with_reducible rfl
      try simp only [Act.put, List.setIfInBounds_toArray, List.set_cons_zero, List.set_cons_succ]
      refine held_run 16 (some 124) (.move (.tmp 0)) ?v30_1_18 (by rfl) (by kernel_rfl) (by kernel_rfl) (by kernel_rfl) (fun _ _ _ h => h) (fun o ho w hS => ?y30_1_18) (by assumption) ?r30_1_18
      case y30_1_18 => (try dsimp only at hS); unfold execOp; simp only [ho]; go_simp; try with_reducible rfl
      try simp only [Act.put, List.setIfInBounds_toArray, List.set_cons_zero, List.set_cons_succ]
      refine held_run 17 (some 125) (.binOp .gtr 3 (.tmp 123) (.tmp 124) 3) ?v30_1_19 (by rfl) (by kernel_rfl) (by kernel_rfl) (by kernel_rfl) (fun _ _ _ h => h) (fun o ho w hS => ?y30_1_19) (by assumption) ?r30_1_19
      case y30_1_19 => (try dsimp only at hS); unfold execOp; simp only [ho]; go_simp; try with_reducible rfl
      try simp only [Act.put, List.setIfInBounds_toArray, List.set_cons_zero, List.set_cons_succ]
      refine held_run 18 (some 126) (.pick (.tmp 119) (.const (Value.bool true)) (.tmp 125)) ?v30_1_20 (by rfl) (by kernel_rfl) (by kernel_rfl) (by kernel_rfl) (fun _ _ _ h => h) (fun o ho w hS => ?y30_1_20) (by assumption) ?r30_1_20
      case y30_1_20 => (try dsimp only at hS); unfold execOp; simp only [ho]; go_simp; try with_reducible rfl
      try simp only [Act.put, List.setIfInBounds_toArray, List.set_cons_zero, List.set_cons_succ]
      refine held_run 19 (some 127) (.move (.tmp 126)) ?v30_1_21 (by rfl) (by kernel_rfl) (by kernel_rfl) (by kernel_rfl) (fun _ _ _ h => h) (fun o ho w hS => ?y30_1_21) (by assumption) ?r30_1_21
      case y30_1_21 => (try dsimp only at hS); unfold execOp; simp only [ho]; go_simp; try with_reducible rfl
      try simp only [Act.put, List.setIfInBounds_toArray, List.set_cons_zero, List.set_cons_succ]
      refine held_run 20 (some 128) (.fieldAddr 34 (.tmp 5) 2) ?v30_1_22 (by rfl) (by kernel_rfl) (by kernel_rfl) (by kernel_rfl) (fun _ _ _ h => h) (fun o ho w hS => ?y30_1_22) (by assumption) ?r30_1_22
      case y30_1_22 => (try dsimp only at hS); unfold execOp; simp only [ho]; go_simp; try with_reducible rfl
      try simp only [Act.put, List.setIfInBounds_toArray, List.set_cons_zero, List.set_cons_succ]
      refine held_run 21 (some 129) (.fieldAddr 32 (.tmp 128) 2) ?v30_1_23 (by rfl) (by kernel_rfl) (by kernel_rfl) (by kernel_rfl) (fun _ _ _ h => h) (fun o ho w hS => ?y30_1_23) (by assumption) ?r30_1_23
      case y30_1_23 => (try dsimp only at hS); unfold execOp; simp only [ho]; go_simp; try with_reducible rfl
      try simp only [Act.put, List.setIfInBounds_toArray, List.set_cons_zero, List.set_cons_succ]
      refine held_run 22 (some 130) (.load 28 (.tmp 129)) ?v30_1_24 (by rfl) (by kernel_rfl) (by kernel_rfl) (by kernel_rfl) (fun _ _ _ h => h) (fun o ho w hS => ?y30_1_24) (by assumption) ?r30_1_24
      case y30_1_24 => (try dsimp only at hS); unfold execOp; simp only [ho]; go_simp; try with_reducible rfl
      try simp only [Act.put, List.setIfInBounds_toArray, List.set_cons_zero, List.set_cons_succ]
      refine held_run 23 (some 131) (.move (.tmp 6)) ?v30_1_25 (by rfl) (by kernel_rfl) (by kernel_rfl) (by kernel_rfl) (fun _ _ _ h => h) (fun o ho w hS => ?y30_1_25) (by assumption) ?r30_1_25
      case y30_1_25 => (try dsimp only at hS); unfold execOp; simp only [ho]; go_simp; try with_reducible rfl
      try simp only [Act.put, List.setIfInBounds_toArray, List.set_cons_zero, List.set_cons_succ]
      refine held_run 24 (some 132) (.fieldAddr 34 (.tmp 5) 2) ?v30_1_26 (by rfl) (by kernel_rfl) (by kernel_rfl) (by kernel_rfl) (fun _ _ _ h => h) (fun o ho w hS => ?y30_1_26) (by assumption) ?r30_1_26
      case y30_1_26 => (try dsimp only at hS); unfold execOp; simp only [ho]; go_simp; try with_reducible rfl
      try simp only [Act.put, List.setIfInBounds_toArray, List.set_cons_zero, List.set_cons_succ]
      refine held_run 25 (some 133) (.fieldAddr 32 (.tmp 132) 2) ?v30_1_27 (by rfl) (by kernel_rfl) (by kernel_rfl) (by kernel_rfl) (fun _ _ _ h => h) (fun o ho w hS => ?y30_1_27) (by assumption) ?r30_1_27
      case y30_1_27 => (try dsimp only at hS); unfold execOp; simp only [ho]; go_simp; try with_reducible rfl
      try simp only [Act.put, List.setIfInBounds_toArray, List.set_cons_zero, List.set_cons_succ]
      refine held_run 26 (some 134) (.load 28 (.tmp 133)) ?v30_1_28 (by rfl) (by kernel_rfl) (by kernel_rfl) (by kernel_rfl) (fun _ _ _ h => h) (fun o ho w hS => ?y30_1_28) (by assumption) ?r30_1_28
      case y30_1_28 => (try dsimp only at hS); unfold execOp; simp only [ho]; go_simp; try with_reducible rfl
      try simp only [Act.put, List.setIfInBounds_toArray, List.set_cons_zero, List.set_cons_succ]
      refine held_run 27 (some 135) (.call { callee := .builtin .len, args := #[(.tmp 134)], argTypes := #[28] }) ?v30_1_29 (by rfl) (by kernel_rfl) (by kernel_rfl) (by kernel_rfl) (fun _ _ _ h => h) (fun o ho w hS => ?y30_1_29) (by assumption) ?r30_1_29
      case y30_1_29 => (try dsimp only at hS); unfold execOp; simp only [ho]; go_simp; try with_reducible rfl
      try simp only [Act.put, List.setIfInBounds_toArray, List.set_cons_zero, List.set_cons_succ]
      refine held_run 28 (some 136) (.slice 28 (.tmp 131) none (some (.tmp 135)) none) ?v30_1_30 (by rfl) (by kernel_rfl) (by kernel_rfl) (by kernel_rfl) (fun _ _ _ h => h) (fun o ho w hS => ?y30_1_30) (by assumption) ?r30_1_30
      case y30_1_30 => (try dsimp only at hS); unfold execOp; simp only [ho]; go_simp; try with_reducible rfl
      try simp only [Act.put, List.setIfInBounds_toArray, List.set_cons_zero, List.set_cons_succ]
      refine held_call 29 (some 137) 13 [(.tmp 130), (.tmp 136)] #[28, 28] #[.slice gyA gyn gyc, .slice aA gyn ac] (by rfl) (by rfl) (by kernel_rfl) Try.func13 (by rfl) (by rfl) ?_
      refine (HSm.out _ HL10.out).mono ?_
      rintro e w11 ⟨rfl, hb11⟩
      have HL11 : Hid (Below wb.heap.size wb w11) := hide (HL10.out.trans (hb11.mono HL10.out.size))
      have hX11 := hX10.below hb11 hX10.lt
      have hHk2 : Blk w11 g 34 #[.slice pyA 2 pyc, .slice myA myn myc, .int .i64 4, .int .i64 ny, .slice oyA oyn oyc, .int .i64 4, .int .i64 ky, .slice gyA gyn gyc, .slice eyA eyn eyc, .bool true] ∧ w11.cell? ⟨g, 9, none⟩ = some (.bool true) ∧ w11.cell? ⟨g, 7, none⟩ = some (.slice gyA gyn gyc) := ⟨hX11, hX11.cell 9, hX11.cell 7⟩
      clear hb11
      refine ⟨_, rfl, hHk2, ?_⟩
      try simp only [Act.put, List.setIfInBounds_toArray, List.set_cons_zero, List.set_cons_succ]
      refine held_run 30 (some 138) (.unOp .not 4 (.tmp 137)) ?v30_1_32 (by rfl) (by kernel_rfl) (by kernel_rfl) (by kernel_rfl) (fun _ _ _ h => h) (fun o ho w hS => ?y30_1_32) (by assumption) ?r30_1_32
      case y30_1_32 => (try dsimp only at hS); unfold execOp; simp only [ho]; go_simp; try with_reducible rfl
      try simp only [Act.put, List.setIfInBounds_toArray, List.set_cons_zero, List.set_cons_succ]
      refine held_run 31 (some 139) (.pick (.tmp 127) (.const (Value.bool true)) (.tmp 138)) ?v30_1_33 (by rfl) (by kernel_rfl) (by kernel_rfl) (by kernel_rfl) (fun _ _ _ h => h) (fun o ho w hS => ?y30_1_33) (by assumption) ?r30_1_33
      case y30_1_33 => (try dsimp only at hS); unfold execOp; simp only [ho]; go_simp; try with_reducible rfl
      try simp only [Act.put, List.setIfInBounds_toArray, List.set_cons_zero, List.set_cons_succ]
      refine wpAnyH_done (by kernel_rfl) ?_ _
      have HX11 := Lib.hid hX11
      have HV11 := Lib.hid (HVy.out.now HL11.out)
      have HT11 := Lib.hid (HTy.out.below HL11.out HTy.out.lt)
      have HA11 := Lib.hid (HAy.out.now HL11.out)
      have HB11 : Hid (Below w.heap.size w w11) := hide (HBy.out.trans (HL11.out.mono HBy.out.size))
      have hgl : g < w11.heap.size := hX11.lt
      have hfl : gf < w11.heap.size := HT11.out.lt
      clear hS hHk hHk2 hX10 hX11 HL10 HL11 HXy HVy HTy HAy HBy HRt HSm hslc d4 d5 d6 s0
      go_upto_region 32 with (fail)
      have hcN : (c : Int) < (fn : Int) := by omega
      have hS : Blk w11.drew g 34 #[.slice pyA 2 pyc, .slice myA myn myc, .int .i64 4, .int .i64 ny, .slice oyA oyn oyc, .int .i64 4, .int .i64 ky, .slice gyA gyn gyc, .slice eyA eyn eyc, .bool true] ∧ w11.drew.cell? ⟨gf, 0, none⟩ = some (.int .i64 kd) ∧ w11.drew.cell? ⟨g, 1, none⟩ = some (.slice myA myn myc) := ⟨HX11.out, HT11.out.cell 0, HX11.out.cell 1⟩
      by_cases hk0 : kd = 0
      · subst hk0
        by_cases hm0 : myn = 0
        · subst hm0
          refine wp_region_held_drew (S := fun W => Blk W g 34 #[.slice pyA 2 pyc, .slice myA 0 myc, .int .i64 4, .int .i64 ny, .slice oyA oyn oyc, .int .i64 4, .int .i64 ky, .slice gyA gyn gyc, .slice eyA eyn eyc, .bool true] ∧ W.cell? ⟨gf, 0, none⟩ = some (.int .i64 0) ∧ W.cell? ⟨g, 1, none⟩ = some (.slice myA 0 myc)) (by kernel_rfl) (hS) (fun hHeld => ?_)
          refine held_run 0 (some 140) (.fieldAddr 38 (.tmp 8) 0) ?v32_34_35 (by rfl) (by kernel_rfl) (by kernel_rfl) (by kernel_rfl) (fun _ _ _ h => h) (fun o ho w hS => ?y32_34_35) (by assumption) ?r32_34_35
          case y32_34_35 => (try dsimp only at hS); unfold execOp; simp only [ho]; go_simp; try with_reducible rfl
          try simp only [Act.put, List.setIfInBounds_toArray, List.set_cons_zero, List.set_cons_succ]
          refine held_run 1 (some 141) (.load 3 (.tmp 140)) ?v32_34_36 (by rfl) (by kernel_rfl) (by kernel_rfl) (by kernel_rfl) (fun _ _ _ h => h) (fun o ho w hS => ?y32_34_36) (by assumption) ?r32_34_36
          case y32_34_36 => (try dsimp only at hS); unfold execOp; simp only [ho]; go_simp; try with_reducible rfl
          try simp only [Act.put, List.setIfInBounds_toArray, List.set_cons_zero, List.set_cons_succ]
          refine held_run 2 (some 142) (.binOp .eql 3 (.tmp 141) (.const (.int .i64 0)) 3) ?v32_34_37 (by rfl) (by kernel_rfl) (by kernel_rfl) (by kernel_rfl) (fun _ _ _ h => h) (fun o ho w hS => ?y32_34_37) (by assumption) ?r32_34_37
          case y32_34_37 => (try dsimp only at hS); unfold execOp; simp only [ho]; go_simp; try with_reducible rfl
          try simp only [Act.put, List.setIfInBounds_toArray, List.set_cons_zero, List.set_cons_succ]
          refine held_run 3 (some 143) (.move (.tmp 142)) ?v32_34_38 (by rfl) (by kernel_rfl) (by kernel_rfl) (by kernel_rfl) (fun _ _ _ h => h) (fun o ho w hS => ?y32_34_38) (by assumption) ?r32_34_38
          case y32_34_38 => (try dsimp only at hS); unfold execOp; simp only [ho]; go_simp; try with_reducible rfl
          try simp only [Act.put, List.setIfInBounds_toArray, List.set_cons_zero, List.set_cons_succ]
          refine held_run 4 (some 144) (.fieldAddr 34 (.tmp 5) 0) ?v32_34_39 (by rfl) (by kernel_rfl) (by kernel_rfl) (by kernel_rfl) (fun _ _ _ h => h) (fun o ho w hS => ?y32_34_39) (by assumption) ?r32_34_39
          case y32_34_39 => (try dsimp only at hS); unfold execOp; simp only [ho]; go_simp; try with_reducible rfl
          try simp only [Act.put, List.setIfInBounds_toArray, List.set_cons_zero, List.set_cons_succ]
          refine held_run 5 (some 145) (.fieldAddr 27 (.tmp 144) 1) ?v32_34_40 (by rfl) (by kernel_rfl) (by kernel_rfl) (by kernel_rfl) (fun _ _ _ h => h) (fun o ho w hS => ?y32_34_40) (by assumption) ?r32_34_40
          case y32_34_40 => (try dsimp only at hS); unfold execOp; simp only [ho]; go_simp; try with_reducible rfl
          try simp only [Act.put, List.setIfInBounds_toArray, List.set_cons_zero, List.set_cons_succ]
          refine held_run 6 (some 146) (.load 25 (.tmp 145)) ?v32_34_41 (by rfl) (by kernel_rfl) (by kernel_rfl) (by kernel_rfl) (fun _ _ _ h => h) (fun o ho w hS => ?y32_34_41) (by assumption) ?r32_34_41
          case y32_34_41 => (try dsimp only at hS); unfold execOp; simp only [ho]; go_simp; try with_reducible rfl
          try simp only [Act.put, List.setIfInBounds_toArray, List.set_cons_zero, List.set_cons_succ]
          refine held_run 7 (some 147) (.call { callee := .builtin .len, args := #[(.tmp 146)], argTypes := #[25] }) ?v32_34_42 (by rfl) (by kernel_rfl) (by kernel_rfl) (by kernel_rfl) (fun _ _ _ h => h) (fun o ho w hS => ?y32_34_42) (by assumption) ?r32_34_42
          case y32_34_42 => (try dsimp only at hS); unfold execOp; simp only [ho]; go_simp; try with_reducible rfl
          try simp only [Act.put, List.setIfInBounds_toArray, List.set_cons_zero, List.set_cons_succ]
          refine held_run 8 (some 148) (.binOp .gtr 3 (.tmp 147) (.const (.int .i64 0)) 3) ?v32_34_43 (by rfl) (by kernel_rfl) (by kernel_rfl) (by kernel_rfl) (fun _ _ _ h => h) (fun o ho w hS => ?y32_34_43) (by assumption) ?r32_34_43
          case y32_34_43 => (try dsimp only at hS); unfold execOp; simp only [ho]; go_simp; try with_reducible rfl
          try simp only [Act.put, List.setIfInBounds_toArray, List.set_cons_zero, List.set_cons_succ]
          refine held_run 9 (some 149) (.pick (.tmp 143) (.tmp 148) (.const (Value.bool false))) ?v32_34_44 (by rfl) (by kernel_rfl) (by kernel_rfl) (by kernel_rfl) (fun _ _ _ h => h) (fun o ho w hS => ?y32_34_44) (by assumption) ?r32_34_44
          case y32_34_44 => (try dsimp only at hS); unfold execOp; simp only [ho]; go_simp; try with_reducible rfl
          try simp only [Act.put, List.setIfInBounds_toArray, List.set_cons_zero, List.set_cons_succ]
          refine held_run 10 (some 150) (.move (.tmp 149)) ?v32_34_45 (by rfl) (by kernel_rfl) (by kernel_rfl) (by kernel_rfl) (fun _ _ _ h => h) (fun o ho w hS => ?y32_34_45) (by assumption) ?r32_34_45
          case y32_34_45 => (try dsimp only at hS); unfold execOp; simp only [ho]; go_simp; try with_reducible rfl
          try simp only [Act.put, List.setIfInBounds_toArray, List.set_cons_zero, List.set_cons_succ]
          refine held_skip 11 (some 151) (by rfl) (by kernel_rfl) (by kernel_rfl) (by kernel_rfl) (fun _ _ _ h => h) (by assumption) ?_
          try simp only [Act.put, List.setIfInBounds_toArray, List.set_cons_zero, List.set_cons_succ]
          refine held_skip 12 (some 152) (by rfl) (by kernel_rfl) (by kernel_rfl) (by kernel_rfl) (fun _ _ _ h => h) (by assumption) ?_
          try simp only [Act.put, List.setIfInBounds_toArray, List.set_cons_zero, List.set_cons_succ]
          refine held_skip 13 (some 153) (by rfl) (by kernel_rfl) (by kernel_rfl) (by kernel_rfl) (fun _ _ _ h => h) (by assumption) ?_
          try simp only [Act.put, List.setIfInBounds_toArray, List.set_cons_zero, List.set_cons_succ]
          refine held_skip 14 (some 154) (by rfl) (by kernel_rfl) (by kernel_rfl) (by kernel_rfl) (fun _ _ _ h => h) (by assumption) ?_
          try simp only [Act.put, List.setIfInBounds_toArray, List.set_cons_zero, List.set_cons_succ]
          refine held_run 15 (some 155) (.pick (.tmp 150) (.tmp 154) (.const (Value.bool false))) ?v32_34_50 (by rfl) (by kernel_rfl) (by kernel_rfl) (by kernel_rfl) (fun _ _ _ h => h) (fun o ho w hS => ?y32_34_50) (by assumption) ?r32_34_50
          case y32_34_50 => (try dsimp only at hS); unfold execOp; simp only [ho]; go_simp; try with_reducible rfl
          try simp only [Act.put, List.setIfInBounds_toArray, List.set_cons_zero, List.set_cons_succ]
          refine held_run 16 (some 156) (.move (.tmp 155)) ?v32_34_51 (by rfl) (by kernel_rfl) (by kernel_rfl) (by kernel_rfl) (fun _ _ _ h => h) (fun o ho w hS => ?y32_34_51) (by assumption) ?r32_34_51
          case y32_34_51 => (try dsimp only at hS); unfold execOp; simp only [ho]; go_simp; try with_reducible rfl
          try simp only [Act.put, List.setIfInBounds_toArray, List.set_cons_zero, List.set_cons_succ]
          refine held_skip 17 (some 157) (by rfl) (by kernel_rfl) (by kernel_rfl) (by kernel_rfl) (fun _ _ _ h => h) (by assumption) ?_
          try simp only [Act.put, List.setIfInBounds_toArray, List.set_cons_zero, List.set_cons_succ]
          refine held_skip 18 (some 158) (by rfl) (by kernel_rfl) (by kernel_rfl) (by kernel_rfl) (fun _ _ _ h => h) (by assumption) ?_
          try simp only [Act.put, List.setIfInBounds_toArray, List.set_cons_zero, List.set_cons_succ]
          refine held_skip 19 (some 159) (by rfl) (by kernel_rfl) (by kernel_rfl) (by kernel_rfl) (fun _ _ _ h => h) (by assumption) ?_
          try simp only [Act.put, List.setIfInBounds_toArray, List.set_cons_zero, List.set_cons_succ]
          refine held_skip 20 (some 160) (by rfl) (by kernel_rfl) (by kernel_rfl) (by kernel_rfl) (fun _ _ _ h => h) (by assumption) ?_
          try simp only [Act.put, List.setIfInBounds_toArray, List.set_cons_zero, List.set_cons_succ]
          refine held_skip 21 (some 161) (by rfl) (by kernel_rfl) (by kernel_rfl) (by kernel_rfl) (fun _ _ _ h => h) (by assumption) ?_
          try simp only [Act.put, List.setIfInBounds_toArray, List.set_cons_zero, List.set_cons_succ]
          refine held_skip 22 (some 162) (by rfl) (by kernel_rfl) (by kernel_rfl) (by kernel_rfl) (fun _ _ _ h => h) (by assumption) ?_
          try simp only [Act.put, List.setIfInBounds_toArray, List.set_cons_zero, List.set_cons_succ]
          refine held_skip 23 (some 163) (by rfl) (by kernel_rfl) (by kernel_rfl) (by kernel_rfl) (fun _ _ _ h => h) (by assumption) ?_
          try simp only [Act.put, List.setIfInBounds_toArray, List.set_cons_zero, List.set_cons_succ]
          refine held_skip 24 (some 164) (by rfl) (by kernel_rfl) (by kernel_rfl) (by kernel_rfl) (fun _ _ _ h => h) (by assumption) ?_
          try simp only [Act.put, List.setIfInBounds_toArray, List.set_cons_zero, List.set_cons_succ]
          refine held_skip 25 (some 165) (by rfl) (by kernel_rfl) (by kernel_rfl) (by kernel_rfl) (fun _ _ _ h => h) (by assumption) ?_
          try simp only [Act.put, List.setIfInBounds_toArray, List.set_cons_zero, List.set_cons_succ]
          refine held_skip 26 (some 166) (by rfl) (by kernel_rfl) (by kernel_rfl) (by kernel_rfl) (fun _ _ _ h => h) (by assumption) ?_
          try simp only [Act.put, List.setIfInBounds_toArray, List.set_cons_zero, List.set_cons_succ]
          refine held_run 27 (some 167) (.pick (.tmp 156) (.tmp 166) (.const (Value.bool false))) ?v32_34_62 (by rfl) (by kernel_rfl) (by kernel_rfl) (by kernel_rfl) (fun _ _ _ h => h) (fun o ho w hS => ?y32_34_62) (by assumption) ?r32_34_62
          case y32_34_62 => (try dsimp only at hS); unfold execOp; simp only [ho]; go_simp; try with_reducible rfl
          try simp only [Act.put, List.setIfInBounds_toArray, List.set_cons_zero, List.set_cons_succ]
          refine wpAnyH_done (by kernel_rfl) ?_ _
          have HLe : Hid (Below w11.heap.size w11 w11.drew) := hide ((Below.refl _ _).drew)
          have HKe : Hid (LkAt w11.drew g an y) := hide (LkAt.now ⟨pyA, pyc, myA, _, myc, ny, oyA, oyn, oyc, ky, gyA, gyn, gyc, eyA, eyn, eyc, HX11.out, HV11.out, hmy, hoy, hgy⟩ HLe.out)
          have HAe : Hid (OwnRd w11.drew 0 (.slice aA an ac) (rdsN 1 an)) := hide (HA11.out.now HLe.out)
          have HBe : Hid (Below w.heap.size w w11.drew) := hide (HB11.out.trans (HLe.out.mono HB11.out.size))
          go_wp2_with fail
          go_roundw
          case rel => exact ⟨c + 1, y, by omega, by go_num, HOy.out, HKe.out, HAe.out, HBe.out⟩
          case measure => simp [intOf]; omega
        · have e1 : decide ((myn : Int) > 0) = true := decide_eq_true (by omega)
          have e2 : decide ((0 : Int) < (myn : Int)) = true := decide_eq_true (by omega)
          have e3 : decide (0 < myn) = true := decide_eq_true (by omega)
          rcases HOy.out.pp with hp | hp
          · refine wp_region_held_drew (S := fun W => Blk W g 34 #[.slice pyA 2 pyc, .slice myA myn myc, .int .i64 4, .int .i64 ny, .slice oyA oyn oyc, .int .i64 4, .int .i64 ky, .slice gyA gyn gyc, .slice eyA eyn eyc, .bool true] ∧ W.cell? ⟨gf, 0, none⟩ = some (.int .i64 0) ∧ W.cell? ⟨g, 1, none⟩ = some (.slice myA myn myc)) (by kernel_rfl) (hS) (fun hHeld => ?_)
            refine held_run 0 (some 140) (.fieldAddr 38 (.tmp 8) 0) ?v32_63_64 (by rfl) (by kernel_rfl) (by kernel_rfl) (by kernel_rfl) (fun _ _ _ h => h) (fun o ho w hS => ?y32_63_64) (by assumption) ?r32_63_64
            case y32_63_64 => (try dsimp only at hS); unfold execOp; simp only [ho]; go_simp; try with_reducible rfl
            try simp only [Act.put, List.setIfInBounds_toArray, List.set_cons_zero, List.set_cons_succ]
            refine held_run 1 (some 141) (.load 3 (.tmp 140)) ?v32_63_65 (by rfl) (by kernel_rfl) (by kernel_rfl) (by kernel_rfl) (fun _ _ _ h => h) (fun o ho w hS => ?y32_63_65) (by assumption) ?r32_63_65
            case y32_63_65 => (try dsimp only at hS); unfold execOp; simp only [ho]; go_simp; try with_reducible rfl
            try simp only [Act.put, List.setIfInBounds_toArray, List.set_cons_zero, List.set_cons_succ]
            refine held_run 2 (some 142) (.binOp .eql 3 (.tmp 141) (.const (.int .i64 0)) 3) ?v32_63_66 (by rfl) (by kernel_rfl) (by kernel_rfl) (by kernel_rfl) (fun _ _ _ h => h) (fun o ho w hS => ?y32_63_66) (by assumption) ?r32_63_66
            case y32_63_66 => (try dsimp only at hS); unfold execOp; simp only [ho]; go_simp; try with_reducible rfl
            try simp only [Act.put, List.setIfInBounds_toArray, List.set_cons_zero, List.set_cons_succ]
            refine held_run 3 (some 143) (.move (.tmp 142)) ?v32_63_67 (by rfl) (by kernel_rfl) (by kernel_rfl) (by kernel_rfl) (fun _ _ _ h => h) (fun o ho w hS => ?y32_63_67) (by assumption) ?r32_63_67
            case y32_63_67 => (try dsimp only at hS); unfold execOp; simp only [ho]; go_simp; try with_reducible rfl
            try simp only [Act.put, List.setIfInBounds_toArray, List.set_cons_zero, List.set_cons_succ]
            refine held_run 4 (some 144) (.fieldAddr 34 (.tmp 5) 0) ?v32_63_68 (by rfl) (by kernel_rfl) (by kernel_rfl) (by kernel_rfl) (fun _ _ _ h => h) (fun o ho w hS => ?y32_63_68) (by assumption) ?r32_63_68
            case y32_63_68 => (try dsimp only at hS); unfold execOp; simp only [ho]; go_simp; try with_reducible rfl
            try simp only [Act.put, List.setIfInBounds_toArray, List.set_cons_zero, List.set_cons_succ]
            refine held_run 5 (some 145) (.fieldAddr 27 (.tmp 144) 1) ?v32_63_69 (by rfl) (by kernel_rfl) (by kernel_rfl) (by kernel_rfl) (fun _ _ _ h => h) (fun o ho w hS => ?y32_63_69) (by assumption) ?r32_63_69
            case y32_63_69 => (try dsimp only at hS); unfold execOp; simp only [ho]; go_simp; try with_reducible rfl
            try simp only [Act.put, List.setIfInBounds_toArray, List.set_cons_zero, List.set_cons_succ]
            refine held_run 6 (some 146) (.load 25 (.tmp 145)) ?v32_63_70 (by rfl) (by kernel_rfl) (by kernel_rfl) (by kernel_rfl) (fun _ _ _ h => h) (fun o ho w hS => ?y32_63_70) (by assumption) ?r32_63_70
            case y32_63_70 => (try dsimp only at hS); unfold execOp; simp only [ho]; go_simp; try with_reducible rfl
            try simp only [Act.put, List.setIfInBounds_toArray, List.set_cons_zero, List.set_cons_succ]
            refine held_run 7 (some 147) (.call { callee := .builtin .len, args := #[(.tmp 146)], argTypes := #[25] }) ?v32_63_71 (by rfl) (by kernel_rfl) (by kernel_rfl) (by kernel_rfl) (fun _ _ _ h => h) (fun o ho w hS => ?y32_63_71) (by assumption) ?r32_63_71
            case y32_63_71 => (try dsimp only at hS); unfold execOp; simp only [ho]; go_simp; try with_reducible rfl
            try simp only [Act.put, List.setIfInBounds_toArray, List.set_cons_zero, List.set_cons_succ]
            refine held_run 8 (some 148) (.binOp .gtr 3 (.tmp 147) (.const (.int .i64 0)) 3) ?v32_63_72 (by rfl) (by kernel_rfl) (by kernel_rfl) (by kernel_rfl) (fun _ _ _ h => h) (fun o ho w hS => ?y32_63_72) (by assumption) ?r32_63_72
            case y32_63_72 => (try dsimp only at hS); unfold execOp; simp only [ho]; go_simp; try with_reducible rfl
            try simp only [Act.put, List.setIfInBounds_toArray, List.set_cons_zero, List.set_cons_succ]
            refine held_run 9 (some 149) (.pick (.tmp 143) (.tmp 148) (.const (Value.bool false))) ?v32_63_73 (by rfl) (by kernel_rfl) (by kernel_rfl) (by kernel_rfl) (fun _ _ _ h => h) (fun o ho w hS => ?y32_63_73) (by assumption) ?r32_63_73
            case y32_63_73 => (try dsimp only at hS); unfold execOp; simp only [ho]; go_simp; try with_reducible rfl
            try simp only [Act.put, List.setIfInBounds_toArray, List.set_cons_zero, List.set_cons_succ]
            refine held_run 10 (some 150) (.move (.tmp 149)) ?v32_63_74 (by rfl) (by kernel_rfl) (by kernel_rfl) (by kernel_rfl) (fun _ _ _ h => h) (fun o ho w hS => ?y32_63_74) (by assumption) ?r32_63_74
            case y32_63_74 => (try dsimp only at hS); unfold execOp; simp only [ho]; go_simp; try with_reducible rfl
            try simp only [Act.put, List.setIfInBounds_toArray, List.set_cons_zero, List.set_cons_succ]
            refine held_run 11 (some 151) (.fieldAddr 34 (.tmp 5) 0) ?v32_63_75 (by rfl) (by kernel_rfl) (by kernel_rfl) (by kernel_rfl) (fun _ _ _ h => h) (fun o ho w hS => ?y32_63_75) (by assumption) ?r32_63_75
            case y32_63_75 => (try dsimp only at hS); unfold execOp; simp only [ho]; go_simp; try with_reducible rfl
            try simp only [Act.put, List.setIfInBounds_toArray, List.set_cons_zero, List.set_cons_succ]
            refine held_load_at 12 (some 152) 27 (.tmp 151) (by rfl) (by kernel_rfl) (by kernel_rfl) (by kernel_rfl) ((⟨g, 0, none⟩ : Addr)) ([.slice pyA 2 pyc, .slice myA myn myc] : List Value) (fun _ _ _ h => h) (by rfl) (fun _ h => h.1.part 0 _ rfl) _ Try.underlying27 rfl (by kernel_rfl) (by assumption) ?_
            try simp only [Act.put, List.setIfInBounds_toArray, List.set_cons_zero, List.set_cons_succ]
            refine held_call 13 (some 153) 14 [(.tmp 152), .const (.int .i64 0), .const (.int .i64 1)] #[27, 3, 3] #[.agg #[.slice pyA 2 pyc, .slice myA myn myc], .int .i64 0, .int .i64 1] (by rfl) (by rfl) (by kernel_rfl) Try.func14 (by rfl) (by rfl) ?_
            refine (can_ms an y pyA pyc myA myn myc w11.drew HOy.out (HV11.out.now (Below.refl _ _).drew).netO.1 (r := true) (by rw [hp]; rfl)).mono ?_
            rintro e w12 ⟨rfl, hb12⟩
            have HL12 : Hid (Below w11.heap.size w11 w12) := hide ((Below.refl _ _).drew.trans hb12)
            have hX12 := hS.1.below hb12 hgl
            have hHk : Blk w12 g 34 #[.slice pyA 2 pyc, .slice myA myn myc, .int .i64 4, .int .i64 ny, .slice oyA oyn oyc, .int .i64 4, .int .i64 ky, .slice gyA gyn gyc, .slice eyA eyn eyc, .bool true] ∧ w12.cell? ⟨gf, 0, none⟩ = some (.int .i64 0) ∧ w12.cell? ⟨g, 1, none⟩ = some (.slice myA myn myc) := ⟨hX12, (hb12.cell (p := ⟨gf, 0, none⟩) hfl).trans hS.2.1, hX12.cell 1⟩
            clear hb12
            refine ⟨_, rfl, hHk, ?_⟩
            try simp only [Act.put, List.setIfInBounds_toArray, List.set_cons_zero, List.set_cons_succ]
            refine held_run 14 (some 154) (.unOp .not 4 (.tmp 153)) ?v32_63_78 (by rfl) (by kernel_rfl) (by kernel_rfl) (by kernel_rfl) (fun _ _ _ h => h) (fun o ho w hS => ?y32_63_78) (by assumption) ?r32_63_78
            case y32_63_78 => (try dsimp only at hS); unfold execOp; simp only [ho]; go_simp; try with_reducible rfl
            try simp only [Act.put, List.setIfInBounds_toArray, List.set_cons_zero, List.set_cons_succ]
            refine held_run 15 (some 155) (.pick (.tmp 150) (.tmp 154) (.const (Value.bool false))) ?v32_63_79 (by rfl) (by kernel_rfl) (by kernel_rfl) (by kernel_rfl) (fun _ _ _ h => h) (fun o ho w hS => ?y32_63_79) (by assumption) ?r32_63_79
            case y32_63_79 => (try dsimp only at hS); unfold execOp; simp only [ho]; go_simp; try with_reducible rfl
            try simp only [Act.put, List.setIfInBounds_toArray, List.set_cons_zero, List.set_cons_succ]
            refine held_run 16 (some 156) (.move (.tmp 155)) ?v32_63_80 (by rfl) (by kernel_rfl) (by kernel_rfl) (by kernel_rfl) (fun _ _ _ h => h) (fun o ho w hS => ?y32_63_80) (by assumption) ?r32_63_80
            case y32_63_80 => (try dsimp only at hS); unfold execOp; simp only [ho]; go_simp; try with_reducible rfl
            try simp only [Act.put, List.setIfInBounds_toArray, List.set_cons_zero, List.set_cons_succ]
            refine held_skip 17 (some 157) (by rfl) (by kernel_rfl) (by kernel_rfl) (by kernel_rfl) (fun _ _ _ h => h) (by assumption) ?_
            try simp only [Act.put, List.setIfInBounds_toArray, List.set_cons_zero, List.set_cons_succ]
            refine held_skip 18 (some 158) (by rfl) (by kernel_rfl) (by kernel_rfl) (by kernel_rfl) (fun _ _ _ h => h) (by assumption) ?_
            try simp only [Act.put, List.setIfInBounds_toArray, List.set_cons_zero, List.set_cons_succ]
            refine held_skip 19 (some 159) (by rfl) (by kernel_rfl) (by kernel_rfl) (by kernel_rfl) (fun _ _ _ h => h) (by assumption) ?_
            try simp only [Act.put, List.setIfInBounds_toArray, List.set_cons_zero, List.set_cons_succ]
            refine held_skip 20 (some 160) (by rfl) (by kernel_rfl) (by kernel_rfl) (by kernel_rfl) (fun _ _ _ h => h) (by assumption) ?_
            try simp only [Act.put, List.setIfInBounds_toArray, List.set_cons_zero, List.set_cons_succ]
            refine held_skip 21 (some 161) (by rfl) (by kernel_rfl) (by kernel_rfl) (by kernel_rfl) (fun _ _ _ h => h) (by assumption) ?_
            try simp only [Act.put, List.setIfInBounds_toArray, List.set_cons_zero, List.set_cons_succ]
            refine held_skip 22 (some 162) (by rfl) (by kernel_rfl) (by kernel_rfl) (by kernel_rfl) (fun _ _ _ h => h) (by assumption) ?_
            try simp only [Act.put, List.setIfInBounds_toArray, List.set_cons_zero, List.set_cons_succ]
            refine held_skip 23 (some 163) (by rfl) (by kernel_rfl) (by kernel_rfl) (by kernel_rfl) (fun _ _ _ h => h) (by assumption) ?_
            try simp only [Act.put, List.setIfInBounds_toArray, List.set_cons_zero, List.set_cons_succ]
            refine held_skip 24 (some 164) (by rfl) (by kernel_rfl) (by kernel_rfl) (by kernel_rfl) (fun _ _ _ h => h) (by assumption) ?_
            try simp only [Act.put, List.setIfInBounds_toArray, List.set_cons_zero, List.set_cons_succ]
            refine held_skip 25 (some 165) (by rfl) (by kernel_rfl) (by kernel_rfl) (by kernel_rfl) (fun _ _ _ h => h) (by assumption) ?_
            try simp only [Act.put, List.setIfInBounds_toArray, List.set_cons_zero, List.set_cons_succ]
            refine held_skip 26 (some 166) (by rfl) (by kernel_rfl) (by kernel_rfl) (by kernel_rfl) (fun _ _ _ h => h) (by assumption) ?_
            try simp only [Act.put, List.setIfInBounds_toArray, List.set_cons_zero, List.set_cons_succ]
            refine held_run 27 (some 167) (.pick (.tmp 156) (.tmp 166) (.const (Value.bool false))) ?v32_63_91 (by rfl) (by kernel_rfl) (by kernel_rfl) (by kernel_rfl) (fun _ _ _ h => h) (fun o ho w hS => ?y32_63_91) (by assumption) ?r32_63_91
            case y32_63_91 => (try dsimp only at hS); unfold execOp; simp only [ho]; go_simp; try with_reducible rfl
            try simp only [Act.put, List.setIfInBounds_toArray, List.set_cons_zero, List.set_cons_succ]
            refine wpAnyH_done (by kernel_rfl) ?_ _
            have HLe : Hid (Below w11.heap.size w11 w12) := hide (HL12.out)
            have HKe : Hid (LkAt w12 g an y) := hide (LkAt.now ⟨pyA, pyc, myA, _, myc, ny, oyA, oyn, oyc, ky, gyA, gyn, gyc, eyA, eyn, eyc, HX11.out, HV11.out, hmy, hoy, hgy⟩ HLe.out)
            have HAe : Hid (OwnRd w12 0 (.slice aA an ac) (rdsN 1 an)) := hide (HA11.out.now HLe.out)
            have HBe : Hid (Below w.heap.size w w12) := hide (HB11.out.trans (HLe.out.mono HB11.out.size))
            go_wp2_with fail
            go_roundw
            case rel => exact ⟨c + 1, y, by omega, by go_num, HOy.out, HKe.out, HAe.out, HBe.out⟩
            case measure => simp [intOf]; omega
          · refine wp_region_held_drew (S := fun W => Blk W g 34 #[.slice pyA 2 pyc, .slice myA myn myc, .int .i64 4, .int .i64 ny, .slice oyA oyn oyc, .int .i64 4, .int .i64 ky, .slice gyA gyn gyc, .slice eyA eyn eyc, .bool true] ∧ W.cell? ⟨gf, 0, none⟩ = some (.int .i64 0) ∧ W.cell? ⟨g, 1, none⟩ = some (.slice myA myn myc)) (by kernel_rfl) (hS) (fun hHeld => ?_)
            refine held_run 0 (some 140) (.fieldAddr 38 (.tmp 8) 0) ?v32_92_93 (by rfl) (by kernel_rfl) (by kernel_rfl) (by kernel_rfl) (fun _ _ _ h => h) (fun o ho w hS => ?y32_92_93) (by assumption) ?r32_92_93
            case y32_92_93 => (try dsimp only at hS); unfold execOp; simp only [ho]; go_simp; try with_reducible rfl
            try simp only [Act.put, List.setIfInBounds_toArray, List.set_cons_zero, List.set_cons_succ]
            refine held_run 1 (some 141) (.load 3 (.tmp 140)) ?v32_92_94 (by rfl) (by kernel_rfl) (by kernel_rfl) (by kernel_rfl) (fun _ _ _ h => h) (fun o ho w hS => ?y32_92_94) (by assumption) ?r32_92_94
            case y32_92_94 => (try dsimp only at hS); unfold execOp; simp only [ho]; go_simp; try with_reducible rfl
            try simp only [Act.put, List.setIfInBounds_toArray, List.set_cons_zero, List.set_cons_succ]
            refine held_run 2 (some 142) (.binOp .eql 3 (.tmp 141) (.const (.int .i64 0)) 3) ?v32_92_95 (by rfl) (by kernel_rfl) (by kernel_rfl) (by kernel_rfl) (fun _ _ _ h => h) (fun o ho w hS => ?y32_92_95) (by assumption) ?r32_92_95
            case y32_92_95 => (try dsimp only at hS); unfold execOp; simp only [ho]; go_simp; try with_reducible rfl
            try simp only [Act.put, List.setIfInBounds_toArray, List.set_cons_zero, List.set_cons_succ]
            refine held_run 3 (some 143) (.move (.tmp 142)) ?v32_92_96 (by rfl) (by kernel_rfl) (by kernel_rfl) (by kernel_rfl) (fun _ _ _ h => h) (fun o ho w hS => ?y32_92_96) (by assumption) ?r32_92_96
            case y32_92_96 => (try dsimp only at hS); unfold execOp; simp only [ho]; go_simp; try with_reducible rfl
            try simp only [Act.put, List.setIfInBounds_toArray, List.set_cons_zero, List.set_cons_succ]
            refine held_run 4 (some 144) (.fieldAddr 34 (.tmp 5) 0) ?v32_92_97 (by rfl) (by kernel_rfl) (by kernel_rfl) (by kernel_rfl) (fun _ _ _ h => h) (fun o ho w hS => ?y32_92_97) (by assumption) ?r32_92_97
            case y32_92_97 => (try dsimp only at hS); unfold execOp; simp only [ho]; go_simp; try with_reducible rfl
            try simp only [Act.put, List.setIfInBounds_toArray, List.set_cons_zero, List.set_cons_succ]
            refine held_run 5 (some 145) (.fieldAddr 27 (.tmp 144) 1) ?v32_92_98 (by rfl) (by kernel_rfl) (by kernel_rfl) (by kernel_rfl) (fun _ _ _ h => h) (fun o ho w hS => ?y32_92_98) (by assumption) ?r32_92_98
            case y32_92_98 => (try dsimp only at hS); unfold execOp; simp only [ho]; go_simp; try with_reducible rfl
            try simp only [Act.put, List.setIfInBounds_toArray, List.set_cons_zero, List.set_cons_succ]
            refine held_run 6 (some 146) (.load 25 (.tmp 145)) ?v32_92_99 (by rfl) (by kernel_rfl) (by kernel_rfl) (by kernel_rfl) (fun _ _ _ h => h) (fun o ho w hS => ?y32_92_99) (by assumption) ?r32_92_99
            case y32_92_99 => (try dsimp only at hS); unfold execOp; simp only [ho]; go_simp; try with_reducible rfl
            try simp only [Act.put, List.setIfInBounds_toArray, List.set_cons_zero, List.set_cons_succ]
            refine held_run 7 (some 147) (.call { callee := .builtin .len, args := #[(.tmp 146)], argTypes := #[25] }) ?v32_92_100 (by rfl) (by kernel_rfl) (by kernel_rfl) (by kernel_rfl) (fun _ _ _ h => h) (fun o ho w hS => ?y32_92_100) (by assumption) ?r32_92_100
            case y32_92_100 => (try dsimp only at hS); unfold execOp; simp only [ho]; go_simp; try with_reducible rfl
            try simp only [Act.put, List.setIfInBounds_toArray, List.set_cons_zero, List.set_cons_succ]
            refine held_run 8 (some 148) (.binOp .gtr 3 (.tmp 147) (.const (.int .i64 0)) 3) ?v32_92_101 (by rfl) (by kernel_rfl) (by kernel_rfl) (by kernel_rfl) (fun _ _ _ h => h) (fun o ho w hS => ?y32_92_101) (by assumption) ?r32_92_101
            case y32_92_101 => (try dsimp only at hS); unfold execOp; simp only [ho]; go_simp; try with_reducible rfl
            try simp only [Act.put, List.setIfInBounds_toArray, List.set_cons_zero, List.set_cons_succ]
            refine held_run 9 (some 149) (.pick (.tmp 143) (.tmp 148) (.const (Value.bool false))) ?v32_92_102 (by rfl) (by kernel_rfl) (by kernel_rfl) (by kernel_rfl) (fun _ _ _ h => h) (fun o ho w hS => ?y32_92_102) (by assumption) ?r32_92_102
            case y32_92_102 => (try dsimp only at hS); unfold execOp; simp only [ho]; go_simp; try with_reducible rfl
            try simp only [Act.put, List.setIfInBounds_toArray, List.set_cons_zero, List.set_cons_succ]
            refine held_run 10 (some 150) (.move (.tmp 149)) ?v32_92_103 (by rfl) (by kernel_rfl) (by kernel_rfl) (by kernel_rfl) (fun _ _ _ h => h) (fun o ho w hS => ?y32_92_103) (by assumption) ?r32_92_103
            case y32_92_103 => (try dsimp only at hS); unfold execOp; simp only [ho]; go_simp; try with_reducible rfl
            try simp only [Act.put, List.setIfInBounds_toArray, List.set_cons_zero, List.set_cons_succ]
            refine held_run 11 (some 151) (.fieldAddr 34 (.tmp 5) 0) ?v32_92_104 (by rfl) (by kernel_rfl) (by kernel_rfl) (by kernel_rfl) (fun _ _ _ h => h) (fun o ho w hS => ?y32_92_104) (by assumption) ?r32_92_104
            case y32_92_104 => (try dsimp only at hS); unfold execOp; simp only [ho]; go_simp; try with_reducible rfl
            try simp only [Act.put, List.setIfInBounds_toArray, List.set_cons_zero, List.set_cons_succ]
            refine held_load_at 12 (some 152) 27 (.tmp 151) (by rfl) (by kernel_rfl) (by kernel_rfl) (by kernel_rfl) ((⟨g, 0, none⟩ : Addr)) ([.slice pyA 2 pyc, .slice myA myn myc] : List Value) (fun _ _ _ h => h) (by rfl) (fun _ h => h.1.part 0 _ rfl) _ Try.underlying27 rfl (by kernel_rfl) (by assumption) ?_
            try simp only [Act.put, List.setIfInBounds_toArray, List.set_cons_zero, List.set_cons_succ]
            refine held_call 13 (some 153) 14 [(.tmp 152), .const (.int .i64 0), .const (.int .i64 1)] #[27, 3, 3] #[.agg #[.slice pyA 2 pyc, .slice myA myn myc], .int .i64 0, .int .i64 1] (by rfl) (by rfl) (by kernel_rfl) Try.func14 (by rfl) (by rfl) ?_
            refine (can_ms an y pyA pyc myA myn myc w11.drew HOy.out (HV11.out.now (Below.refl _ _).drew).netO.1 (r := false) (by rw [hp]; rfl)).mono ?_
            rintro e w12 ⟨rfl, hb12⟩
            have HL12 : Hid (Below w11.heap.size w11 w12) := hide ((Below.refl _ _).drew.trans hb12)
            have hX12 := hS.1.below hb12 hgl
            have hHk : Blk w12 g 34 #[.slice pyA 2 pyc, .slice myA myn myc, .int .i64 4, .int .i64 ny, .slice oyA oyn oyc, .int .i64 4, .int .i64 ky, .slice gyA gyn gyc, .slice eyA eyn eyc, .bool true] ∧ w12.cell? ⟨gf, 0, none⟩ = some (.int .i64 0) ∧ w12.cell? ⟨g, 1, none⟩ = some (.slice myA myn myc) := ⟨hX12, (hb12.cell (p := ⟨gf, 0, none⟩) hfl).trans hS.2.1, hX12.cell 1⟩
            clear hb12
            refine ⟨_, rfl, hHk, ?_⟩
            try simp only [Act.put, List.setIfInBounds_toArray, List.set_cons_zero, List.set_cons_succ]
            refine held_run 14 (some 154) (.unOp .not 4 (.tmp 153)) ?v32_92_107 (by rfl) (by kernel_rfl) (by kernel_rfl) (by kernel_rfl) (fun _ _ _ h => h) (fun o ho w hS => ?y32_92_107) (by assumption) ?r32_92_107
            case y32_92_107 => (try dsimp only at hS); unfold execOp; simp only [ho]; go_simp; try with_reducible rfl
            try simp only [Act.put, List.setIfInBounds_toArray, List.set_cons_zero, List.set_cons_succ]
            refine held_run 15 (some 155) (.pick (.tmp 150) (.tmp 154) (.const (Value.bool false))) ?v32_92_108 (by rfl) (by kernel_rfl) (by kernel_rfl) (by kernel_rfl) (fun _ _ _ h => h) (fun o ho w hS => ?y32_92_108) (by assumption) ?r32_92_108
            case y32_92_108 => (try dsimp only at hS); unfold execOp; simp only [ho]; go_simp; try with_reducible rfl
            try simp only [Act.put, List.setIfInBounds_toArray, List.set_cons_zero, List.set_cons_succ]
            refine held_run 16 (some 156) (.move (.tmp 155)) ?v32_92_109 (by rfl) (by kernel_rfl) (by kernel_rfl) (by kernel_rfl) (fun _ _ _ h => h) (fun o ho w hS => ?y32_92_109) (by assumption) ?r32_92_109
            case y32_92_109 => (try dsimp only at hS); unfold execOp; simp only [ho]; go_simp; try with_reducible rfl
            try simp only [Act.put, List.setIfInBounds_toArray, List.set_cons_zero, List.set_cons_succ]
            refine held_load 17 (some 157) 34 (.tmp 5) (by rfl) (by kernel_rfl) (by kernel_rfl) (by kernel_rfl) (g) 34 #[.slice pyA 2 pyc, .slice myA myn myc, .int .i64 4, .int .i64 ny, .slice oyA oyn oyc, .int .i64 4, .int .i64 ky, .slice gyA gyn gyc, .slice eyA eyn eyc, .bool true] (fun _ _ _ h => h) (by rfl) (fun _ h => h.1) _ Try.underlying34 rfl (by kernel_rfl) (by assumption) ?_
            try simp only [Act.put, List.setIfInBounds_toArray, List.set_cons_zero, List.set_cons_succ]
            refine held_run 22 (some 162) (.fieldAddr 34 (.tmp 5) 0) ?v32_92_111 (by rfl) (by kernel_rfl) (by kernel_rfl) (by kernel_rfl) (fun _ _ _ h => h) (fun o ho w hS => ?y32_92_111) (by assumption) ?r32_92_111
            case y32_92_111 => (try dsimp only at hS); unfold execOp; simp only [ho]; go_simp; try with_reducible rfl
            try simp only [Act.put, List.setIfInBounds_toArray, List.set_cons_zero, List.set_cons_succ]
            refine held_run 23 (some 163) (.fieldAddr 27 (.tmp 162) 1) ?v32_92_112 (by rfl) (by kernel_rfl) (by kernel_rfl) (by kernel_rfl) (fun _ _ _ h => h) (fun o ho w hS => ?y32_92_112) (by assumption) ?r32_92_112
            case y32_92_112 => (try dsimp only at hS); unfold execOp; simp only [ho]; go_simp; try with_reducible rfl
            try simp only [Act.put, List.setIfInBounds_toArray, List.set_cons_zero, List.set_cons_succ]
            refine held_run 24 (some 164) (.load 25 (.tmp 163)) ?v32_92_113 (by rfl) (by kernel_rfl) (by kernel_rfl) (by kernel_rfl) (fun _ _ _ h => h) (fun o ho w hS => ?y32_92_113) (by assumption) ?r32_92_113
            case y32_92_113 => (try dsimp only at hS); unfold execOp; simp only [ho]; go_simp; try with_reducible rfl
            try simp only [Act.put, List.setIfInBounds_toArray, List.set_cons_zero, List.set_cons_succ]
            refine held_run 25 (some 165) (.call { callee := .builtin .len, args := #[(.tmp 164)], argTypes := #[25] }) ?v32_92_114 (by rfl) (by kernel_rfl) (by kernel_rfl) (by kernel_rfl) (fun _ _ _ h => h) (fun o ho w hS => ?y32_92_114) (by assumption) ?r32_92_114
            case y32_92_114 => (try dsimp only at hS); unfold execOp; simp only [ho]; go_simp; try with_reducible rfl
            try simp only [Act.put, List.setIfInBounds_toArray, List.set_cons_zero, List.set_cons_succ]
            refine held_call 18 (some 158) 7 [(.tmp 157), .const (.int .i64 0)] #[34, 3] #[.agg #[.slice pyA 2 pyc, .slice myA myn myc, .int .i64 4, .int .i64 ny, .slice oyA oyn oyc, .int .i64 4, .int .i64 ky, .slice gyA gyn gyc, .slice eyA eyn eyc, .bool true], .int .i64 0] (by rfl) (by rfl) (by kernel_rfl) Try.func7 (by rfl) (by rfl) ?_
            refine (arrive_any an y 0 _ w12 HOy.out (HV11.out.now HL12.out)).mono ?_
            rintro e w13 ⟨v13, rfl, hv13, hb13⟩
            obtain ⟨pqA, pqc, mqA, mqn, mqc, nq, oqA, oqn, oqc, kq, gqA, gqn, gqc, eqA, eqn, eqc, rfl, hmq, hoq, hgq⟩ := hv13.parts2
            have hmm : mqn = myn := by rw [hmq.out, hmy.out, arrive_div (n := an) hp]
            subst hmm
            have HL13 : Hid (Below w11.heap.size w11 w13) := hide (HL12.out.trans (hb13.mono HL12.out.size))
            have hX13 := hX12.below hb13 hX12.lt
            have hHk2 : Blk w13 g 34 #[.slice pyA 2 pyc, .slice myA mqn myc, .int .i64 4, .int .i64 ny, .slice oyA oyn oyc, .int .i64 4, .int .i64 ky, .slice gyA gyn gyc, .slice eyA eyn eyc, .bool true] ∧ w13.cell? ⟨gf, 0, none⟩ = some (.int .i64 0) ∧ w13.cell? ⟨g, 1, none⟩ = some (.slice myA mqn myc) := ⟨hX13, (hb13.cell (p := ⟨gf, 0, none⟩) (Nat.lt_of_lt_of_le hfl HL12.out.size)).trans hHk.2.1, hX13.cell 1⟩
            have hf1 := field_net (.slice pqA 2 pqc) (.slice mqA mqn mqc) (.int .i64 4) (.int .i64 nq) (.slice oqA oqn oqc) (.int .i64 4) (.int .i64 kq) (.slice gqA gqn gqc) (.slice eqA eqn eqc) (.bool true)
            have hf2 := field_mail (.slice pqA 2 pqc) mqA mqn mqc
            clear hb13 hv13
            refine ⟨_, rfl, hHk2, ?_⟩
            try simp only [Act.put, List.setIfInBounds_toArray, List.set_cons_zero, List.set_cons_succ]
            refine held_run 19 (some 159) (.field 34 (.tmp 158) 0) ?v32_92_116 (by rfl) (by kernel_rfl) (by kernel_rfl) (by kernel_rfl) (fun _ _ _ h => h) (fun o ho w hS => ?y32_92_116) (by assumption) ?r32_92_116
            case y32_92_116 => (try dsimp only at hS); unfold execOp; simp only [ho]; go_simp; try with_reducible rfl
            try simp only [Act.put, List.setIfInBounds_toArray, List.set_cons_zero, List.set_cons_succ]
            refine held_run 20 (some 160) (.field 27 (.tmp 159) 1) ?v32_92_117 (by rfl) (by kernel_rfl) (by kernel_rfl) (by kernel_rfl) (fun _ _ _ h => h) (fun o ho w hS => ?y32_92_117) (by assumption) ?r32_92_117
            case y32_92_117 => (try dsimp only at hS); unfold execOp; simp only [ho]; go_simp; try with_reducible rfl
            try simp only [Act.put, List.setIfInBounds_toArray, List.set_cons_zero, List.set_cons_succ]
            refine held_run 21 (some 161) (.call { callee := .builtin .len, args := #[(.tmp 160)], argTypes := #[25] }) ?v32_92_118 (by rfl) (by kernel_rfl) (by kernel_rfl) (by kernel_rfl) (fun _ _ _ h => h) (fun o ho w hS => ?y32_92_118) (by assumption) ?r32_92_118
            case y32_92_118 => (try dsimp only at hS); unfold execOp; simp only [ho]; go_simp; try with_reducible rfl
            try simp only [Act.put, List.setIfInBounds_toArray, List.set_cons_zero, List.set_cons_succ]
            refine held_run 26 (some 166) (.binOp .neq 3 (.tmp 161) (.tmp 165) 3) ?v32_92_119 (by rfl) (by kernel_rfl) (by kernel_rfl) (by kernel_rfl) (fun _ _ _ h => h) (fun o ho w hS => ?y32_92_119) (by assumption) ?r32_92_119
            case y32_92_119 => (try dsimp only at hS); unfold execOp; simp only [ho]; go_simp; try with_reducible rfl
            try simp only [Act.put, List.setIfInBounds_toArray, List.set_cons_zero, List.set_cons_succ]
            refine held_run 27 (some 167) (.pick (.tmp 156) (.tmp 166) (.const (Value.bool false))) ?v32_92_120 (by rfl) (by kernel_rfl) (by kernel_rfl) (by kernel_rfl) (fun _ _ _ h => h) (fun o ho w hS => ?y32_92_120) (by assumption) ?r32_92_120
            case y32_92_120 => (try dsimp only at hS); unfold execOp; simp only [ho]; go_simp; try with_reducible rfl
            try simp only [Act.put, List.setIfInBounds_toArray, List.set_cons_zero, List.set_cons_succ]
            refine wpAnyH_done (by kernel_rfl) ?_ _
            have HLe : Hid (Below w11.heap.size w11 w13) := hide (HL13.out)
            have HKe : Hid (LkAt w13 g an y) := hide (LkAt.now ⟨pyA, pyc, myA, _, myc, ny, oyA, oyn, oyc, ky, gyA, gyn, gyc, eyA, eyn, eyc, HX11.out, HV11.out, hmy, hoy, hgy⟩ HLe.out)
            have HAe : Hid (OwnRd w13 0 (.slice aA an ac) (rdsN 1 an)) := hide (HA11.out.now HLe.out)
            have HBe : Hid (Below w.heap.size w w13) := hide (HB11.out.trans (HLe.out.mono HB11.out.size))
            go_wp2_with fail
            go_roundw
            case rel => exact ⟨c + 1, y, by omega, by go_num, HOy.out, HKe.out, HAe.out, HBe.out⟩
            case measure => simp [intOf]; omega
      · have b0 : (kd == 0) = false := by simp [hk0]
        refine wp_region_held_drew (S := fun W => Blk W g 34 #[.slice pyA 2 pyc, .slice myA myn myc, .int .i64 4, .int .i64 ny, .slice oyA oyn oyc, .int .i64 4, .int .i64 ky, .slice gyA gyn gyc, .slice eyA eyn eyc, .bool true] ∧ W.cell? ⟨gf, 0, none⟩ = some (.int .i64 kd) ∧ W.cell? ⟨g, 1, none⟩ = some (.slice myA myn myc)) (by kernel_rfl) (hS) (fun hHeld => ?_)
        refine held_run 0 (some 140) (.fieldAddr 38 (.tmp 8) 0) ?v32_121_122 (by rfl) (by kernel_rfl) (by kernel_rfl) (by kernel_rfl) (fun _ _ _ h => h) (fun o ho w hS => ?y32_121_122) (by assumption) ?r32_121_122
        case y32_121_122 => (try dsimp only at hS); unfold execOp; simp only [ho]; go_simp; try with_reducible rfl
        try simp only [Act.put, List.setIfInBounds_toArray, List.set_cons_zero, List.set_cons_succ]
        refine held_run 1 (some 141) (.load 3 (.tmp 140)) ?v32_121_123 (by rfl) (by kernel_rfl) (by kernel_rfl) (by kernel_rfl) (fun _ _ _ h => h) (fun o ho w hS => ?y32_121_123) (by assumption) ?r32_121_123
        case y32_121_123 => (try dsimp only at hS); unfold execOp; simp only [ho]; go_simp; try with_reducible rfl
        try simp only [Act.put, List.setIfInBounds_toArray, List.set_cons_zero, List.set_cons_succ]
        refine held_run 2 (some 142) (.binOp .eql 3 (.tmp 141) (.const (.int .i64 0)) 3) ?v32_121_124 (by rfl) (by kernel_rfl) (by kernel_rfl) (by kernel_rfl) (fun _ _ _ h => h) (fun o ho w hS => ?y32_121_124) (by assumption) ?r32_121_124
        case y32_121_124 => (try dsimp only at hS); unfold execOp; simp only [ho]; go_simp; try with_reducible rfl
        try simp only [Act.put, List.setIfInBounds_toArray, List.set_cons_zero, List.set_cons_succ]
        refine held_run 3 (some 143) (.move (.tmp 142)) ?v32_121_125 (by rfl) (by kernel_rfl) (by kernel_rfl) (by kernel_rfl) (fun _ _ _ h => h) (fun o ho w hS => ?y32_121_125) (by assumption) ?r32_121_125
        case y32_121_125 => (try dsimp only at hS); unfold execOp; simp only [ho]; go_simp; try with_reducible rfl
        try simp only [Act.put, List.setIfInBounds_toArray, List.set_cons_zero, List.set_cons_succ]
        refine held_skip 4 (some 144) (by rfl) (by kernel_rfl) (by kernel_rfl) (by kernel_rfl) (fun _ _ _ h => h) (by assumption) ?_
        try simp only [Act.put, List.setIfInBounds_toArray, List.set_cons_zero, List.set_cons_succ]
        refine held_skip 5 (some 145) (by rfl) (by kernel_rfl) (by kernel_rfl) (by kernel_rfl) (fun _ _ _ h => h) (by assumption) ?_
        try simp only [Act.put, List.setIfInBounds_toArray, List.set_cons_zero, List.set_cons_succ]
        refine held_skip 6 (some 146) (by rfl) (by kernel_rfl) (by kernel_rfl) (by kernel_rfl) (fun _ _ _ h => h) (by assumption) ?_
        try simp only [Act.put, List.setIfInBounds_toArray, List.set_cons_zero, List.set_cons_succ]
        refine held_skip 7 (some 147) (by rfl) (by kernel_rfl) (by kernel_rfl) (by kernel_rfl) (fun _ _ _ h => h) (by assumption) ?_
        try simp only [Act.put, List.setIfInBounds_toArray, List.set_cons_zero, List.set_cons_succ]
        refine held_skip 8 (some 148) (by rfl) (by kernel_rfl) (by kernel_rfl) (by kernel_rfl) (fun _ _ _ h => h) (by assumption) ?_
        try simp only [Act.put, List.setIfInBounds_toArray, List.set_cons_zero, List.set_cons_succ]
        refine held_run 9 (some 149) (.pick (.tmp 143) (.tmp 148) (.const (Value.bool false))) ?v32_121_131 (by rfl) (by kernel_rfl) (by kernel_rfl) (by kernel_rfl) (fun _ _ _ h => h) (fun o ho w hS => ?y32_121_131) (by assumption) ?r32_121_131
        case y32_121_131 => (try dsimp only at hS); unfold execOp; simp only [ho]; go_simp; try with_reducible rfl
        try simp only [Act.put, List.setIfInBounds_toArray, List.set_cons_zero, List.set_cons_succ]
        refine held_run 10 (some 150) (.move (.tmp 149)) ?v32_121_132 (by rfl) (by kernel_rfl) (by kernel_rfl) (by kernel_rfl) (fun _ _ _ h => h) (fun o ho w hS => ?y32_121_132) (by assumption) ?r32_121_132
        case y32_121_132 => (try dsimp only at hS); unfold execOp; simp only [ho]; go_simp; try with_reducible rfl
        try simp only [Act.put, List.setIfInBounds_toArray, List.set_cons_zero, List.set_cons_succ]
        refine held_skip 11 (some 151) (by rfl) (by kernel_rfl) (by kernel_rfl) (by kernel_rfl) (fun _ _ _ h => h) (by assumption) ?_
        try simp only [Act.put, List.setIfInBounds_toArray, List.set_cons_zero, List.set_cons_succ]
        refine held_skip 12 (some 152) (by rfl) (by kernel_rfl) (by kernel_rfl) (by kernel_rfl) (fun _ _ _ h => h) (by assumption) ?_
        try simp only [Act.put, List.setIfInBounds_toArray, List.set_cons_zero, List.set_cons_succ]
        refine held_skip 13 (some 153) (by rfl) (by kernel_rfl) (by kernel_rfl) (by kernel_rfl) (fun _ _ _ h => h) (by assumption) ?_
        try simp only [Act.put, List.setIfInBounds_toArray, List.set_cons_zero, List.set_cons_succ]
        refine held_skip 14 (some 154) (by rfl) (by kernel_rfl) (by kernel_rfl) (by kernel_rfl) (fun _ _ _ h => h) (by assumption) ?_
        try simp only [Act.put, List.setIfInBounds_toArray, List.set_cons_zero, List.set_cons_succ]
        refine held_run 15 (some 155) (.pick (.tmp 150) (.tmp 154) (.const (Value.bool false))) ?v32_121_137 (by rfl) (by kernel_rfl) (by kernel_rfl) (by kernel_rfl) (fun _ _ _ h => h) (fun o ho w hS => ?y32_121_137) (by assumption) ?r32_121_137
        case y32_121_137 => (try dsimp only at hS); unfold execOp; simp only [ho]; go_simp; try with_reducible rfl
        try simp only [Act.put, List.setIfInBounds_toArray, List.set_cons_zero, List.set_cons_succ]
        refine held_run 16 (some 156) (.move (.tmp 155)) ?v32_121_138 (by rfl) (by kernel_rfl) (by kernel_rfl) (by kernel_rfl) (fun _ _ _ h => h) (fun o ho w hS => ?y32_121_138) (by assumption) ?r32_121_138
        case y32_121_138 => (try dsimp only at hS); unfold execOp; simp only [ho]; go_simp; try with_reducible rfl
        try simp only [Act.put, List.setIfInBounds_toArray, List.set_cons_zero, List.set_cons_succ]
        refine held_skip 17 (some 157) (by rfl) (by kernel_rfl) (by kernel_rfl) (by kernel_rfl) (fun _ _ _ h => h) (by assumption) ?_
        try simp only [Act.put, List.setIfInBounds_toArray, List.set_cons_zero, List.set_cons_succ]
        refine held_skip 18 (some 158) (by rfl) (by kernel_rfl) (by kernel_rfl) (by kernel_rfl) (fun _ _ _ h => h) (by assumption) ?_
        try simp only [Act.put, List.setIfInBounds_toArray, List.set_cons_zero, List.set_cons_succ]
        refine held_skip 19 (some 159) (by rfl) (by kernel_rfl) (by kernel_rfl) (by kernel_rfl) (fun _ _ _ h => h) (by assumption) ?_
        try simp only [Act.put, List.setIfInBounds_toArray, List.set_cons_zero, List.set_cons_succ]
        refine held_skip 20 (some 160) (by rfl) (by kernel_rfl) (by kernel_rfl) (by kernel_rfl) (fun _ _ _ h => h) (by assumption) ?_
        try simp only [Act.put, List.setIfInBounds_toArray, List.set_cons_zero, List.set_cons_succ]
        refine held_skip 21 (some 161) (by rfl) (by kernel_rfl) (by kernel_rfl) (by kernel_rfl) (fun _ _ _ h => h) (by assumption) ?_
        try simp only [Act.put, List.setIfInBounds_toArray, List.set_cons_zero, List.set_cons_succ]
        refine held_skip 22 (some 162) (by rfl) (by kernel_rfl) (by kernel_rfl) (by kernel_rfl) (fun _ _ _ h => h) (by assumption) ?_
        try simp only [Act.put, List.setIfInBounds_toArray, List.set_cons_zero, List.set_cons_succ]
        refine held_skip 23 (some 163) (by rfl) (by kernel_rfl) (by kernel_rfl) (by kernel_rfl) (fun _ _ _ h => h) (by assumption) ?_
        try simp only [Act.put, List.setIfInBounds_toArray, List.set_cons_zero, List.set_cons_succ]
        refine held_skip 24 (some 164) (by rfl) (by kernel_rfl) (by kernel_rfl) (by kernel_rfl) (fun _ _ _ h => h) (by assumption) ?_
        try simp only [Act.put, List.setIfInBounds_toArray, List.set_cons_zero, List.set_cons_succ]
        refine held_skip 25 (some 165) (by rfl) (by kernel_rfl) (by kernel_rfl) (by kernel_rfl) (fun _ _ _ h => h) (by assumption) ?_
        try simp only [Act.put, List.setIfInBounds_toArray, List.set_cons_zero, List.set_cons_succ]
        refine held_skip 26 (some 166) (by rfl) (by kernel_rfl) (by kernel_rfl) (by kernel_rfl) (fun _ _ _ h => h) (by assumption) ?_
        try simp only [Act.put, List.setIfInBounds_toArray, List.set_cons_zero, List.set_cons_succ]
        refine held_run 27 (some 167) (.pick (.tmp 156) (.tmp 166) (.const (Value.bool false))) ?v32_121_149 (by rfl) (by kernel_rfl) (by kernel_rfl) (by kernel_rfl) (fun _ _ _ h => h) (fun o ho w hS => ?y32_121_149) (by assumption) ?r32_121_149
        case y32_121_149 => (try dsimp only at hS); unfold execOp; simp only [ho]; go_simp; try with_reducible rfl
        try simp only [Act.put, List.setIfInBounds_toArray, List.set_cons_zero, List.set_cons_succ]
        refine wpAnyH_done (by kernel_rfl) ?_ _
        have HLe : Hid (Below w11.heap.size w11 w11.drew) := hide ((Below.refl _ _).drew)
        have HKe : Hid (LkAt w11.drew g an y) := hide (LkAt.now ⟨pyA, pyc, myA, _, myc, ny, oyA, oyn, oyc, ky, gyA, gyn, gyc, eyA, eyn, eyc, HX11.out, HV11.out, hmy, hoy, hgy⟩ HLe.out)
        have HAe : Hid (OwnRd w11.drew 0 (.slice aA an ac) (rdsN 1 an)) := hide (HA11.out.now HLe.out)
        have HBe : Hid (Below w.heap.size w w11.drew) := hide (HB11.out.trans (HLe.out.mono HB11.out.size))
        go_wp2_with fail
        go_roundw
        case rel => exact ⟨c + 1, y, by omega, by go_num, HOy.out, HKe.out, HAe.out, HBe.out⟩
        case measure => simp [intOf]; omega
    · obtain rfl : c = fn := by omega
      have hcf : ¬ ((c : Int) < (c : Int)) := by omega
      obtain ⟨pbA, pbc, mbA, mbn, mbc, nb, obA, obn, obc, kb, gbA, gbn, gbc, ebA, ebn, ebc, hX, hV, hmb, hob, hgb⟩ := HKo.out
      have HXb := Lib.hid hX
      have HVb := Lib.hid hV
      clear hX hV HKo
      go_wp2_with (refine wpList_load_at 27 (.tmp 169) rfl rfl ⟨g, 0, none⟩ rfl [.slice pbA 2 pbc, .slice mbA mbn mbc] (HXb.out.part 0 _ rfl) _ Try.underlying27 rfl (by kernel_rfl) ?_)
      have HBw6 := (Blk.new wo 3 #[.int .i64 0, .int .i64 0])
      have HLw6 := (below_new wo (.cells #[.int .i64 0, .int .i64 0] 3))
      have hsw6 : (wo.alloc (.cells #[.int .i64 0, .int .i64 0] 3)).heap.size = wo.heap.size + 1 := by simp
      generalize wo.alloc (.cells #[.int .i64 0, .int .i64 0] 3) = w6 at HBw6 HLw6 hsw6 ⊢
      replace HBw6 := Lib.hid HBw6
      replace HLw6 := Lib.hid HLw6
      have hlw6 : wo.heap.size < w6.heap.size := by omega
      replace hsw6 := Lib.hid hsw6
      with_reducible refine (split_ms an x 0 wo.heap.size pbA pbc mbA mbn mbc w6 HOK.out (HVb.out.now HLw6.out).netO.1 (.inl rfl) HBw6.out).mono ?_
      rintro e w7 ⟨qA, qc, rA, rn, rc, rfl, hb7, hn7⟩
      have HL7 : Hid (Below wo.heap.size wo w7) := hide (HLw6.out.trans (hb7.mono HLw6.out.size))
      have HX7 := Lib.hid (HXb.out.below HL7.out HXb.out.lt)
      have HV7 := Lib.hid (HVb.out.now HL7.out)
      have HA7 := Lib.hid (HAo.out.now HL7.out)
      have HB7 : Hid (Below w.heap.size w w7) := hide (HBo.out.trans (HL7.out.mono HBo.out.size))
      have HM7 := Lib.hid hn7
      clear hb7 hn7 HLw6 HBw6 hsw6 HL7 HXb HVb HAo HBo
      go_upto_region 35 with (fail)
      have HBw8 := (Blk.new w7 27 #[.slice qA 2 qc, .slice rA rn rc])
      have HLw8 := (below_new w7 (.cells #[.slice qA 2 qc, .slice rA rn rc] 27))
      have hsw8 : (w7.alloc (.cells #[.slice qA 2 qc, .slice rA rn rc] 27)).heap.size = w7.heap.size + 1 := by simp
      generalize w7.alloc (.cells #[.slice qA 2 qc, .slice rA rn rc] 27) = w8 at HBw8 HLw8 hsw8 ⊢
      replace HBw8 := Lib.hid HBw8
      replace HLw8 := Lib.hid HLw8
      have hlw8 : w7.heap.size < w8.heap.size := by omega
      replace hsw8 := Lib.hid hsw8
      have HX8 := Lib.hid (HX7.out.below HLw8.out HX7.out.lt)
      have HV8 := Lib.hid (HV7.out.now HLw8.out)
      have HA8 := Lib.hid (HA7.out.now HLw8.out)
      have HM8 := Lib.hid (HM7.out.now HLw8.out)
      have HB8 : Hid (Below w.heap.size w w8) := hide (HB7.out.trans (HLw8.out.mono HB7.out.size))
      clear HX7 HV7 HA7 HM7 HB7 HLw8 hsw8
      go_wp2_with
        (first
         | (refine wpList_load_blk rfl 27 (.tmp 15) rfl w7.heap.size rfl _ _ HBw8.out _ Try.underlying27 rfl (by kernel_rfl) ?_)
         | (refine wpList_store_part 27 (.tmp 178) (.tmp 177) rfl rfl g 0 #[.slice qA 2 qc, .slice rA rn rc] rfl rfl 34 _ HX8.out (by kernel_rfl) (by simp) (by simp [Value.oneCell']) #[.slice qA 2 qc, .slice rA rn rc, .int .i64 4, .int .i64 nb, .slice obA obn obc, .int .i64 4, .int .i64 kb, .slice gbA gbn gbc, .slice ebA ebn ebc, .bool true] rfl ?_
            intro w9 hx9 hon9
            have HX9 := Lib.hid hx9
            have HV9 := Lib.hid ((HV8.out.onlyT hon9 HX8.out (by decide) (by decide) (by decide) (by decide)).net (HM8.out.onlyT hon9 HX8.out (by decide) (by decide) (by decide)))
            have HA9 := Lib.hid (HA8.out.onlyT hon9 HX8.out (by decide))
            have HB9 : Hid (Below w.heap.size w w9) := hide (hon9.below HB8.out hgw)
            have HK9 : Hid (LkAt w9 g an ⟨x.a, x.k, x.early, x.mail, 0⟩) := hide (LkAt.mk' HV9.out rfl HX9.out)
            clear hx9 hon9))
      clear HX8 HV8 HA8 HM8 HB8 HBw8 HX9 HV9
      have HO9 := Lib.hid (HOK.out.part (q := 0) (.inl rfl))
      generalize x.mail = ml at *
      simp only [Act.put]
      go_loopw [17, 18] (fun _ _ wr => ∃ l' : List Ms, OKL an ⟨x.a, x.k, x.early, l', 0⟩ ∧ LkAt wr g an ⟨x.a, x.k, x.early, l', 0⟩ ∧ OwnRd wr 0 (.slice aA an ac) (rdsN 1 an) ∧ Below w.heap.size w wr) (fun _ _ wr => mailM g wr)
      case atStart => exact ⟨ml, HO9.out, HK9.out, HA9.out, HB9.out⟩
      case round =>
        obtain ⟨l', hO, hK, hA, hB⟩ := hrel
        obtain ⟨wp, rfl⟩ : ∃ W : World, W = wr := ⟨_, rfl⟩
        have HOp := Lib.hid hO
        have HAp := Lib.hid hA
        have HBp := Lib.hid hB
        obtain ⟨psA, psc, msA, msn, msc, ns, osA, osn, osc, ks, gsA, gsn, gsc, esA, esn, esc, hX, hV, hms, hos, hgs⟩ := hK
        have HXp := Lib.hid hX
        have HVp := Lib.hid hV
        clear hX hV hO hA hB HO9 HK9 HA9 HB9
        have m1 : wp.cell? ⟨g, 1, none⟩ = some (.slice msA msn msc) := HXp.out.cell 1
        by_cases hz : msn = 0
        · have hl0 : l' = [] := List.length_eq_zero_iff.1 (by rw [← hms.out]; exact hz)
          subst hz hl0
          clear hms hos hgs
          clear m1
          have m1 : wp.cell? ⟨g, 1, none⟩ = some (.slice msA 0 msc) := HXp.out.cell 1
          go_wp2_with (refine wpList_load_blk rfl 34 (.tmp 5) rfl g rfl _ _ HXp.out _ Try.underlying34 rfl (by kernel_rfl) ?_)
          with_reducible refine (upload_any an _ _ wp HOp.out HVp.out).mono ?_
          rintro e w6 ⟨v6, rfl, hv6, hb6⟩
          obtain ⟨pdA, pdc, mdA, mdn, mdc, nd, odA, odn, odc, kd, gdA, gdn, gdc, edA, edn, edc, rfl, hmd, hod, hgd⟩ := hv6.parts2
          have HX6 := Lib.hid (HXp.out.below hb6 HXp.out.lt)
          have HV6 := Lib.hid hv6
          have HA6 := Lib.hid (HAp.out.now hb6)
          have HB6 : Hid (Below w.heap.size w w6) := hide (HBp.out.trans (hb6.mono HBp.out.size))
          have HO6 := Lib.hid HOp.out.upload
          have hfin := run_all HOK.out.inv hn20
          clear hb6 hv6 HXp HVp HAp HBp m1 hmd hod hgd
          generalize uploadN an ⟨x.a, x.k, x.early, [], 0⟩ = z at *
          go_wp2_with
            (refine wpList_store_blk rfl 34 (.tmp 5) (.tmp 195) rfl g #[.slice pdA 2 pdc, .slice mdA mdn mdc, .int .i64 4, .int .i64 nd, .slice odA odn odc, .int .i64 4, .int .i64 kd, .slice gdA gdn gdc, .slice edA edn edc, .bool true] rfl rfl _ _ HX6.out (by kernel_rfl) rfl (by simp [Value.oneCell']) ?_
             intro w7 hx7 hon7
             have HV7 := Lib.hid (HV6.out.onlyT hon7 HX6.out (by decide) (by decide) (by decide) (by decide))
             have HA7 := Lib.hid (HA6.out.onlyT hon7 HX6.out (by decide))
             have HB7 : Hid (Below w.heap.size w w7) := hide (hon7.below HB6.out hgw)
             have HK7 : Hid (LkAt w7 g an z) := hide (LkAt.mk' HV7.out rfl hx7)
             clear hx7 hon7)
          clear HX6 HV6 HA6 HB6 HV7 HOK HOp
          go_wp2_with fail
          try simp only [Act.put]
          go_loopw [19] (fun i wr => ∃ (s : Nat) (y : Lk), s ≤ 100 ∧ i = .int .i64 s ∧ runN (100 - s) y = runN 100 z ∧ OKL an y ∧ LkAt wr g an y ∧ OwnRd wr 0 (.slice aA an ac) (rdsN 1 an) ∧ Below w.heap.size w wr) (fun i _ => 100 - (intOf i).toNat)
          case atStart => exact ⟨0, z, by omega, rfl, rfl, HO6.out, HK7.out, HA7.out, HB7.out⟩
          case round =>
            obtain ⟨s, y, hs, rfl, hrun, hO, hK, hA, hB⟩ := hrel
            obtain ⟨wq, rfl⟩ : ∃ W : World, W = wr := ⟨_, rfl⟩
            have HOq := Lib.hid hO
            have HAq := Lib.hid hA
            have HBq := Lib.hid hB
            obtain ⟨ptA, ptc, mtA, mtn, mtc, nt, otA, otn, otc, kt, gtA, gtn, gtc, etA, etn, etc, hX, hV, hmt, hot, hgt⟩ := hK
            have HXq := Lib.hid hX
            have HVq := Lib.hid hV
            have HRun := Lib.hid hrun
            clear hX hV hO hA hB HO6 HK7 HA7 HB7 hrun
            have m1 : wq.cell? ⟨g, 1, none⟩ = some (.slice mtA mtn mtc) := HXq.out.cell 1
            by_cases hgo : s < 100 ∧ 0 < mtn
            · have q1 : decide ((s : Int) < 100) = true := decide_eq_true (by omega)
              have q2 : decide ((mtn : Int) > 0) = true := decide_eq_true (by omega)
              have q3 : decide ((0 : Int) < (mtn : Int)) = true := decide_eq_true (by omega)
              have q4 : decide (0 < mtn) = true := decide_eq_true (by omega)
              have hne : y.mail ≠ [] := fun h => by
                have h1 := hmt.out
                rw [h] at h1
                have h2 : mtn = 0 := h1
                omega
              go_wp2_with (refine wpList_load_blk rfl 34 (.tmp 5) rfl g rfl _ _ HXq.out _ Try.underlying34 rfl (by kernel_rfl) ?_)
              with_reducible refine (arrive_any an y 0 _ wq HOq.out HVq.out).mono ?_
              rintro e w8 ⟨v8, rfl, hv8, hb8⟩
              obtain ⟨puA, puc, muA, mun, muc, nu, ouA, oun, ouc, ku, guA, gun, guc, euA, eun, euc, rfl, hmu, hou, hgu⟩ := hv8.parts2
              have HX8 := Lib.hid (HXq.out.below hb8 HXq.out.lt)
              have HV8 := Lib.hid hv8
              have HA8 := Lib.hid (HAq.out.now hb8)
              have HB8 : Hid (Below w.heap.size w w8) := hide (HBq.out.trans (hb8.mono HBq.out.size))
              clear hb8 hv8 HXq HVq HAq HBq m1 q1 q2 q3 q4
              go_wp2_with
                (refine wpList_store_blk rfl 34 (.tmp 5) (.tmp 208) rfl g #[.slice puA 2 puc, .slice muA mun muc, .int .i64 4, .int .i64 nu, .slice ouA oun ouc, .int .i64 4, .int .i64 ku, .slice guA gun guc, .slice euA eun euc, .bool true] rfl rfl _ _ HX8.out (by kernel_rfl) rfl (by simp [Value.oneCell']) ?_
                 intro w9 hx9 hon9
                 have HV9 := Lib.hid (HV8.out.onlyT hon9 HX8.out (by decide) (by decide) (by decide) (by decide))
                 have HA9 := Lib.hid (HA8.out.onlyT hon9 HX8.out (by decide))
                 have HB9 : Hid (Below w.heap.size w w9) := hide (hon9.below HB8.out hgw)
                 have HK9 : Hid (LkAt w9 g an (arriveN y 0)) := hide (LkAt.mk' HV9.out rfl hx9)
                 clear hx9 hon9)
              go_roundw
              case rel => exact ⟨s + 1, arriveN y 0, by omega, by go_num, by rw [← HRun.out, show 100 - s = (100 - (s + 1)) + 1 by omega, run_step hne], HOq.out.arrive 0, HK9.out, HA9.out, HB9.out⟩
              case measure => simp [intOf]; omega
            · have hy : y = runN 100 z := by
                rw [← HRun.out]
                by_cases h100 : s = 100
                · rw [h100]
                  rfl
                · rw [run_done (List.length_eq_zero_iff.1 (by have := hmt.out; omega))]
              rw [← hy] at hfin
              obtain ⟨hf1, hf2, hf3⟩ := hfin
              have e1 : mtn = 0 := by rw [hmt.out, hf1]; rfl
              have e2 : otn = 0 := by rw [hot.out, hf3]; omega
              have e3 : gtn = an := by rw [hgt.out, hf2]
              have HSm : Hid (∀ W, Below wq.heap.size wq W → Calls Try.prog 13 #[.slice gtA an gtc, .slice aA an ac] W (BoR true W)) := fun W hW => by
                obtain ⟨gA', gn', gc', q1, hl1, hgs1⟩ := (HVq.out.now hW).netO.2.2.1.parts
                injection q1 with q1 q2 q3
                subst q1 q2 q3
                obtain ⟨aA', an', ac', q1, _, has1⟩ := (HAq.out.now hW).parts
                injection q1 with q1 q2 q3
                subst q1 q2 q3
                rw [hf2] at hl1 hgs1
                rw [e3] at hl1 hgs1
                exact same_any gtA an gtc aA ac _ W hgs1 hl1 has1 (by omega)
              clear hmt hot hgt hy hgo hs
              subst e1 e2
              subst e3
              have z9 : wq.cell? ⟨g, 9, none⟩ = some (.bool true) := HXq.out.cell 9
              have z7 : wq.cell? ⟨g, 7, none⟩ = some (.slice gtA gtn gtc) := HXq.out.cell 7
              have z4 : wq.cell? ⟨g, 4, none⟩ = some (.slice otA 0 otc) := HXq.out.cell 4
              by_cases h100 : s < 100
              · have q1 : decide ((s : Int) < 100) = true := decide_eq_true (by omega)
                go_wp2_with fail
                with_reducible refine (HSm.out _ (Below.refl _ _)).mono ?_
                rintro e w8 ⟨rfl, hb8⟩
                have HX8 := Lib.hid (HXq.out.below hb8 HXq.out.lt)
                have HB8 : Hid (Below w.heap.size w w8) := hide (HBq.out.trans (hb8.mono HBq.out.size))
                have z4 : w8.cell? ⟨g, 4, none⟩ = some (.slice otA 0 otc) := HX8.out.cell 4
                go_wp2_with fail
                try go_ret
                exact HFin.out _ HB8.out
              · have q1 : decide ((s : Int) < 100) = false := decide_eq_false (by omega)
                go_wp2_with fail
                with_reducible refine (HSm.out _ (Below.refl _ _)).mono ?_
                rintro e w8 ⟨rfl, hb8⟩
                have HX8 := Lib.hid (HXq.out.below hb8 HXq.out.lt)
                have HB8 : Hid (Below w.heap.size w w8) := hide (HBq.out.trans (hb8.mono HBq.out.size))
                have z4 : w8.cell? ⟨g, 4, none⟩ = some (.slice otA 0 otc) := HX8.out.cell 4
                go_wp2_with fail
                try go_ret
                exact HFin.out _ HB8.out
        · have q2 : decide ((msn : Int) > 0) = true := decide_eq_true (by omega)
          have q3 : decide ((0 : Int) < (msn : Int)) = true := decide_eq_true (by omega)
          have q4 : decide (0 < msn) = true := decide_eq_true (by omega)
          have hne : l' ≠ [] := fun h => hz (by rw [hms.out, h]; rfl)
          have HLl := Lib.hid (lose_len hne)
          go_wp2_with (refine wpList_load_at 27 (.tmp 185) rfl rfl ⟨g, 0, none⟩ rfl [.slice psA 2 psc, .slice msA msn msc] (HXp.out.part 0 _ rfl) _ Try.underlying27 rfl (by kernel_rfl) ?_)
          with_reducible refine (lose_ms an ⟨x.a, x.k, x.early, l', 0⟩ 0 psA psc msA msn msc wp HOp.out HVp.out.netO.1).mono ?_
          rintro e w6 ⟨r, qA, qn, qc, rA, rn, rc, rfl, hb6, hr⟩
          replace hr := hr.resolve_right fun h => by
            have h1 : loseN l' 0 = l' := h.2
            have h2 := HLl.out
            rw [h1] at h2
            omega
          obtain ⟨rfl, rfl, hn6⟩ := hr
          have HX6 := Lib.hid (HXp.out.below hb6 HXp.out.lt)
          have HV6 := Lib.hid (HVp.out.now hb6)
          have HA6 := Lib.hid (HAp.out.now hb6)
          have HB6 : Hid (Below w.heap.size w w6) := hide (HBp.out.trans (hb6.mono HBp.out.size))
          have HM6 : Hid (NetO w6 (.slice qA 2 qc) (.slice rA rn rc) [0, 0] ((loseN l' 0).map ltN)) := hide hn6
          have hrn : Hid (rn + 1 = msn) := hide <| by
            obtain ⟨_, _, _, _, _, _, e2, hmn, _, _⟩ := hn6.nam
            injection e2 with e6 e7 e8
            have h0 := hmn.out
            rw [List.length_map] at h0
            have h1 : (loseN l' 0).length = rn := h0.trans e7.symm
            have h2 := HLl.out
            have h3 := hms.out
            omega
          clear hb6 hn6 HXp HVp HAp HBp q2 q3 q4
          go_upto_region 40 with (fail)
          have HBw7 := (Blk.new w6 27 #[.slice qA 2 qc, .slice rA rn rc])
          have HLw7 := (below_new w6 (.cells #[.slice qA 2 qc, .slice rA rn rc] 27))
          have hsw7 : (w6.alloc (.cells #[.slice qA 2 qc, .slice rA rn rc] 27)).heap.size = w6.heap.size + 1 := by simp
          generalize w6.alloc (.cells #[.slice qA 2 qc, .slice rA rn rc] 27) = w7 at HBw7 HLw7 hsw7 ⊢
          replace HBw7 := Lib.hid HBw7
          replace HLw7 := Lib.hid HLw7
          have hlw7 : w6.heap.size < w7.heap.size := by omega
          replace hsw7 := Lib.hid hsw7
          have HX7 := Lib.hid (HX6.out.below HLw7.out HX6.out.lt)
          have HV7 := Lib.hid (HV6.out.now HLw7.out)
          have HA7 := Lib.hid (HA6.out.now HLw7.out)
          have HM7 := Lib.hid (HM6.out.now HLw7.out)
          have HB7 : Hid (Below w.heap.size w w7) := hide (HB6.out.trans (HLw7.out.mono HB6.out.size))
          clear HX6 HV6 HA6 HM6 HB6 HLw7 hsw7
          go_wp2_with
            (first
             | (refine wpList_load_blk rfl 27 (.tmp 17) rfl w6.heap.size rfl _ _ HBw7.out _ Try.underlying27 rfl (by kernel_rfl) ?_)
             | (refine wpList_store_part 27 (.tmp 193) (.tmp 192) rfl rfl g 0 #[.slice qA 2 qc, .slice rA rn rc] rfl rfl 34 _ HX7.out (by kernel_rfl) (by simp) (by simp [Value.oneCell']) #[.slice qA 2 qc, .slice rA rn rc, .int .i64 4, .int .i64 ns, .slice osA osn osc, .int .i64 4, .int .i64 ks, .slice gsA gsn gsc, .slice esA esn esc, .bool true] rfl ?_
                intro w8 hx8 hon8
                have HV8 := Lib.hid ((HV7.out.onlyT hon8 HX7.out (by decide) (by decide) (by decide) (by decide)).net (HM7.out.onlyT hon8 HX7.out (by decide) (by decide) (by decide)))
                have HA8 := Lib.hid (HA7.out.onlyT hon8 HX7.out (by decide))
                have HB8 : Hid (Below w.heap.size w w8) := hide (hon8.below HB7.out hgw)
                have HK8 : Hid (LkAt w8 g an ⟨x.a, x.k, x.early, loseN l' 0, 0⟩) := hide (LkAt.mk' HV8.out rfl hx8)
                have m8 : w8.cell? ⟨g, 1, none⟩ = some (.slice rA rn rc) := hx8.cell 1
                clear hx8 hon8))
          try simp only [Act.put]
          go_roundw
          case rel => exact ⟨loseN l' 0, loseN_ok HOp.out 0, HK8.out, HA8.out, HB8.out⟩
          case measure => rw [mailM_eq m8, mailM_eq m1]; have := hrn.out; omega


theorem own_topDivided : ownKnob Try.prog.godebug = none := by kernel_rfl
theorem laidOut_topDivided : laidOutB Try.prog = true := by kernel_rfl
set_option maxRecDepth 100000 in
theorem topDivided_lifted (os : Os) (started : os.Started) (H : Type) (enc : TypeId × Value → H) :
    ReturnsInHanded {} Try.checked os 3 .any (Rows.topDividedSpec.pre6 enc Try.prog Try.f3 Rows.topDividedRow.domain false) (Rows.topDividedSpec.post enc Try.prog Try.f3 false true false false) := by
  refine returnsInHanded_of_change (C := Try.checked) own_topDivided started (by kernel_rfl) Try.func3
    (ChangeSpec.witness6 (enc := enc) (C := Try.checked) false ⟨#[], #[.int .i64 0, .slice none 0 0], []⟩ 8 (by kernel_rfl) (by kernel_rfl) (by kernel_rfl) (by kernel_rfl)) ?_
  intro W base args ds gs before hval0 hW hcnd _
  have hval : ∀ (j : Nat) t v, Try.f3.params[j]? = some t → args[j]? = some v → Value.okWide Try.prog W .any base t v := hval0
  have hW' := hW
  obtain ⟨p, q, hA0, hV, rfl, hfz, hnd⟩ := hW
  have hA : DataW.TrodAll enc Try.prog W 0 (fun _ => true) true Try.f3.params.toList args.toList ds p := hA0
  rw [Try.params3] at hA hval
  obtain ⟨v0, vs0, d0, ds0, p0, q0, hargs, rfl, rfl, h0, r0⟩ := trodAll_cons hA
  obtain ⟨v1, vs1, d1, ds1, p1, q1, rfl, rfl, rfl, h1, r1⟩ := trodAll_cons r0
  obtain ⟨rfl, rfl, rfl⟩ := trodAll_nil r1
  obtain rfl : args = #[v0, v1] := by cases args; simp_all
  obtain ⟨rfl, rfl⟩ := trodVars_none hV
  obtain ⟨r, rfl, r0, r1⟩ := open_i64 Try.underlying3 (hval 0 3 v0 rfl rfl) h0
  obtain ⟨l, hl, hlw⟩ := open_fates (hval 1 22 v1 rfl rfl) h1
  refine (topDivided_any W r ⟨r0, r1⟩ v1 l hl hlw).mono fun e W' ⟨he, hb⟩ => ?_
  subst he
  exact ⟨_, rfl, law_post laidOut_topDivided (by kernel_rfl) rfl rfl Try.underlying4 hW' rfl hb⟩

theorem topDivided_holds : Rows.TopDividedSaid :=
  OpenClaim.holds_of_wide 3 Try.f3 rfl rfl rfl rfl rfl rfl rfl ⟨rfl, rfl, rfl, rfl, rfl⟩ rfl rfl rfl rfl rfl (by kernel_rfl) Try.func3 (by kernel_rfl)
    (of_decide_eq_true (by kernel_rfl)) (by unfold Func.isWrapper; rw [if_neg (by decide +kernel)]; exact ⟨rfl, rfl⟩)
    (fun os started H enc _ => topDivided_lifted os started H enc)
#print axioms topDivided_holds

end Go.Proofs.Ytedeggjefnpjgaa
