/-
  Level of chapter 49, walked.
-/
import Derived.Test.YtmbdlnimegdigaaBulF
import Derived.Test.YtmbdlnimegdigaaReg
import Derived.IntWalk
namespace Go.Proofs.Ytmbdlnimegdigaa
open Go.RowKit

set_option maxRecDepth 100000 in
set_option maxHeartbeats 2000000 in
theorem lvl_any (A : Option Addr) (n c : Nat) (bs : List Bu) (zone low high t : Int) (w : World) (hr : Buls w w.heap.size A n bs) (hn : n ≤ maxLen) :
    Calls Try.prog 23 #[.slice A n c, .int .i64 zone, .int .i64 low, .int .i64 high, .int .i64 t] w fun e w' => e = .returned (.int .i64 (levN bs zone low high t)) ∧ Below w.heap.size w w' := by
  unfold maxLen at hn
  have HR := Lib.hid hr
  have HL := Lib.hid hr.len
  clear hr
  obtain ⟨cv, hcv⟩ : ∃ cv, curN bs t = cv := ⟨_, rfl⟩
  have HCn : Hid (∀ W : World, Buls W W.heap.size A n bs → Calls Try.prog 33 #[.slice A n c, .int .i64 t] W fun e w' => ∃ g1 g2 : Nat, e = .returned (.func (.func 36) #[] #[.pointer (some ⟨g1, 0, none⟩), .pointer (some ⟨g2, 0, none⟩)]) ∧ Blk w' g1 3 #[.int .i64 cv] ∧ Blk w' g2 3 #[.int .i64 t] ∧ Below W.heap.size W w') := by
    intro W hW
    rw [← hcv]
    exact counting_any A n c bs t W hW (by simpa only [maxLen] using hn)
  rw [show levN bs zone low high t = levF (placeB cv zone low high t) 0 bs by rw [levN, hcv]]
  clear hcv
  go_enter Try.func23, Try.ntmps23
  go_wp2_with fail
  with_reducible refine (HCn.out _ HR.out).mono ?_
  rintro e w1 ⟨g1, g2, rfl, hg1, hg2, hb1⟩
  have HB0 := Lib.hid hb1
  have HR1 := Lib.hid (HR.out.now hb1)
  have HG1 := Lib.hid hg1
  have HG2 := Lib.hid hg2
  have hlg1 := hg1.lt
  have hlg2 := hg2.lt
  clear hb1 hg1 hg2
  go_wp2_with fail
  go_loopw [12, 20] (fun v i wr => ∃ (k : Nat), k ≤ n ∧ i = .int .i64 k ∧ v = .int .i64 (levF (placeB cv zone low high t) 0 (bs.take k)) ∧ Below w1.heap.size w1 wr) (fun _ i _ => n - (intOf i).toNat)
  case atStart => exact ⟨0, by omega, rfl, rfl, Below.refl _ _⟩
  case round =>
    obtain ⟨k, hk, rfl, rfl, hbr⟩ := hrel
    obtain ⟨wo, rfl⟩ : ∃ wo : World, wo = wr := ⟨_, rfl⟩
    have HB := Lib.hid hbr
    have hsz := hbr.size
    clear hbr
    by_cases hlt : k < n
    · skip
      obtain ⟨ad, z, rfl, hab, hcs, hrow⟩ := (HR1.out.below HB.out).at_ hlt
      have HTk := Lib.hid (bu_take bs k (by rw [HL.out]; exact hlt))
      have HSn := Lib.hid (levF_snoc (placeB cv zone low high t) 0 (bs.take k) (bs.getD k ⟨0, 0, 0, 0, 0, 0, []⟩))
      rw [← HTk.out] at HSn
      generalize bs.getD k ⟨0, 0, 0, 0, 0, 0, []⟩ = b at *
      obtain ⟨ver, fr, ti, lo, hi, lev, zs⟩ := b
      obtain ⟨A2, c2, rfl, hz1, hz2, hzr⟩ := hrow
      obtain ⟨n2, hn2⟩ : ∃ n2, zs.length = n2 := ⟨_, rfl⟩
      rw [hn2] at hz1 hzr hcs
      have HCs := Lib.hid hcs
      have HZr := Lib.hid hzr
      have HM2 := Lib.hid (Nat.le_trans hz1 hz2)
      clear hcs hzr hn2 hz2
      generalize levF (placeB cv zone low high t) 0 (bs.take k) = v at *
      obtain ⟨q, hq⟩ : ∃ q, countB cv t ⟨ver, fr, ti, lo, hi, lev, zs⟩ = q := ⟨_, rfl⟩
      obtain ⟨cc, hc⟩ : ∃ cc, zs.contains zone = cc := ⟨_, rfl⟩
      have hpl : placeB cv zone low high t ⟨ver, fr, ti, lo, hi, lev, zs⟩ = (q && cc && decide (lo < high) && decide (low < hi)) := by
        show (countB cv t ⟨ver, fr, ti, lo, hi, lev, zs⟩ && zs.contains zone && decide (lo < high) && decide (low < hi)) = _
        rw [hq, hc]
      rw [hpl] at HSn
      have HF : Hid (∀ W : World, Blk W g1 3 #[.int .i64 cv] → Blk W g2 3 #[.int .i64 t] → Calls Try.prog 36 #[.agg #[.int .i64 ver, .int .i64 fr, .int .i64 ti, .int .i64 lo, .int .i64 hi, .slice A2 n2 c2, .int .i64 lev], .pointer (some ⟨g1, 0, none⟩), .pointer (some ⟨g2, 0, none⟩)] W fun e w' => e = .returned (.bool q) ∧ Below W.heap.size W w') := by
        intro W h1 h2
        rw [← hq]
        exact count_any ⟨ver, fr, ti, lo, hi, lev, zs⟩ (.slice A2 n2 c2) rfl cv t g1 g2 W h1 h2
      have HCt : Hid (∀ W : World, Ints W w1.heap.size A2 n2 zs → Calls Try.prog 34 #[.slice A2 n2 c2, .int .i64 zone] W fun e w' => e = .returned (.bool cc) ∧ Drew W w') := fun W hW => contains_any _ _ _ _ zs zone cc W hW HM2.out hc
      clear hq hc hpl
      cases q with
      | true =>
        cases cc with
        | true =>
          by_cases h1 : lo < high
          · by_cases h2 : low < hi
            · by_cases hv : v < lev
              · have HN : Hid (levF (placeB cv zone low high t) 0 (bs.take (k + 1)) = lev) := hide (HSn.out.trans (if_pos ⟨by simp [h1, h2], hv⟩))
                go_wp2_with
                  (first
                   | (refine wpList_load_at 31 (.tmp 22) rfl rfl (ad.add (k * 7)) rfl [.int .i64 ver, .int .i64 fr, .int .i64 ti, .int .i64 lo, .int .i64 hi, .slice A2 n2 c2, .int .i64 lev] HCs.out _ Try.underlying31 rfl (by kernel_rfl) ?_)
                   | (refine wpList_store_blk rfl 31 (.tmp 14) (.tmp 23) rfl wo.heap.size #[.int .i64 ver, .int .i64 fr, .int .i64 ti, .int .i64 lo, .int .i64 hi, .slice A2 n2 c2, .int .i64 lev] rfl rfl _ _ (Blk.new wo 31 #[.int .i64 0, .int .i64 0, .int .i64 0, .int .i64 0, .int .i64 0, .slice none 0 0, .int .i64 0]) (by kernel_rfl) rfl (by simp [Value.oneCell']) ?_
                      intro wn hxn honn
                      have hbn := honn.below (below_new wo (.cells #[.int .i64 0, .int .i64 0, .int .i64 0, .int .i64 0, .int .i64 0, .slice none 0 0, .int .i64 0] 31)) (Nat.le_refl _)
                      have HB1 := Lib.hid hbn
                      have HX1 := Lib.hid hxn
                      have hl1 : wo.heap.size < wn.heap.size := hxn.lt
                      have HBB1 := Lib.hid (HB.out.trans (HB1.out.mono hsz))
                      have e0 : wn.cell? ⟨wo.heap.size, 0, none⟩ = some (.int .i64 ver) := HX1.out.cell 0
                      have e1 : wn.cell? ⟨wo.heap.size, 1, none⟩ = some (.int .i64 fr) := HX1.out.cell 1
                      have e2 : wn.cell? ⟨wo.heap.size, 2, none⟩ = some (.int .i64 ti) := HX1.out.cell 2
                      have e3 : wn.cell? ⟨wo.heap.size, 3, none⟩ = some (.int .i64 lo) := HX1.out.cell 3
                      have e4 : wn.cell? ⟨wo.heap.size, 4, none⟩ = some (.int .i64 hi) := HX1.out.cell 4
                      have e5 : wn.cell? ⟨wo.heap.size, 5, none⟩ = some (.slice A2 n2 c2) := HX1.out.cell 5
                      have e6 : wn.cell? ⟨wo.heap.size, 6, none⟩ = some (.int .i64 lev) := HX1.out.cell 6
                      clear hxn honn hbn)
                   | (refine wpList_load_g 31 (.tmp 14) rfl rfl wo.heap.size rfl _ _ HX1.out _ Try.underlying31 rfl (by kernel_rfl) ?_))
                with_reducible refine (HF.out _ ((HG1.out.below HB.out hlg1).below HB1.out (by omega)) ((HG2.out.below HB.out hlg2).below HB1.out (by omega))).mono ?_
                rintro e w2 ⟨rfl, hb2⟩
                have HBB2 := Lib.hid (HBB1.out.trans (hb2.mono HBB1.out.size))
                have HX2 := Lib.hid (HX1.out.below hb2 hl1)
                have hsz2 : w1.heap.size ≤ w2.heap.size := HBB2.out.size
                have HBo2 := Lib.hid (HB1.out.trans (hb2.mono HB1.out.size))
                clear hb2
                have f0 : w2.cell? ⟨wo.heap.size, 0, none⟩ = some (.int .i64 ver) := HX2.out.cell 0
                have f1 : w2.cell? ⟨wo.heap.size, 1, none⟩ = some (.int .i64 fr) := HX2.out.cell 1
                have f2 : w2.cell? ⟨wo.heap.size, 2, none⟩ = some (.int .i64 ti) := HX2.out.cell 2
                have f3 : w2.cell? ⟨wo.heap.size, 3, none⟩ = some (.int .i64 lo) := HX2.out.cell 3
                have f4 : w2.cell? ⟨wo.heap.size, 4, none⟩ = some (.int .i64 hi) := HX2.out.cell 4
                have f5 : w2.cell? ⟨wo.heap.size, 5, none⟩ = some (.slice A2 n2 c2) := HX2.out.cell 5
                have f6 : w2.cell? ⟨wo.heap.size, 6, none⟩ = some (.int .i64 lev) := HX2.out.cell 6
                go_wp2_with fail
                with_reducible refine (HCt.out _ (HZr.out.below (HBo2.out.mono hsz))).mono ?_
                rintro e w3 ⟨rfl, hdr⟩
                have HBB3 := Lib.hid (HBB2.out.trans (hdr.below _))
                have HX3 : Hid (Blk w3 wo.heap.size 31 #[.int .i64 ver, .int .i64 fr, .int .i64 ti, .int .i64 lo, .int .i64 hi, .slice A2 n2 c2, .int .i64 lev]) := by obtain ⟨nd, rfl⟩ := hdr; exact HX2.out
                clear hdr
                have g0 : w3.cell? ⟨wo.heap.size, 0, none⟩ = some (.int .i64 ver) := HX3.out.cell 0
                have g1 : w3.cell? ⟨wo.heap.size, 1, none⟩ = some (.int .i64 fr) := HX3.out.cell 1
                have g2 : w3.cell? ⟨wo.heap.size, 2, none⟩ = some (.int .i64 ti) := HX3.out.cell 2
                have g3 : w3.cell? ⟨wo.heap.size, 3, none⟩ = some (.int .i64 lo) := HX3.out.cell 3
                have g4 : w3.cell? ⟨wo.heap.size, 4, none⟩ = some (.int .i64 hi) := HX3.out.cell 4
                have g5 : w3.cell? ⟨wo.heap.size, 5, none⟩ = some (.slice A2 n2 c2) := HX3.out.cell 5
                have g6 : w3.cell? ⟨wo.heap.size, 6, none⟩ = some (.int .i64 lev) := HX3.out.cell 6
                go_wp2_with fail
                go_roundw
                case rel => exact ⟨k + 1, by omega, by go_num, by rw [HN.out], HBB3.out⟩
                case measure => simp [intOf]; omega
              · have HN : Hid (levF (placeB cv zone low high t) 0 (bs.take (k + 1)) = v) := hide (HSn.out.trans (if_neg (fun h => hv h.2)))
                have dv : decide (v < lev) = false := by simpa using hv
                go_wp2_with
                  (first
                   | (refine wpList_load_at 31 (.tmp 22) rfl rfl (ad.add (k * 7)) rfl [.int .i64 ver, .int .i64 fr, .int .i64 ti, .int .i64 lo, .int .i64 hi, .slice A2 n2 c2, .int .i64 lev] HCs.out _ Try.underlying31 rfl (by kernel_rfl) ?_)
                   | (refine wpList_store_blk rfl 31 (.tmp 14) (.tmp 23) rfl wo.heap.size #[.int .i64 ver, .int .i64 fr, .int .i64 ti, .int .i64 lo, .int .i64 hi, .slice A2 n2 c2, .int .i64 lev] rfl rfl _ _ (Blk.new wo 31 #[.int .i64 0, .int .i64 0, .int .i64 0, .int .i64 0, .int .i64 0, .slice none 0 0, .int .i64 0]) (by kernel_rfl) rfl (by simp [Value.oneCell']) ?_
                      intro wn hxn honn
                      have hbn := honn.below (below_new wo (.cells #[.int .i64 0, .int .i64 0, .int .i64 0, .int .i64 0, .int .i64 0, .slice none 0 0, .int .i64 0] 31)) (Nat.le_refl _)
                      have HB1 := Lib.hid hbn
                      have HX1 := Lib.hid hxn
                      have hl1 : wo.heap.size < wn.heap.size := hxn.lt
                      have HBB1 := Lib.hid (HB.out.trans (HB1.out.mono hsz))
                      have e0 : wn.cell? ⟨wo.heap.size, 0, none⟩ = some (.int .i64 ver) := HX1.out.cell 0
                      have e1 : wn.cell? ⟨wo.heap.size, 1, none⟩ = some (.int .i64 fr) := HX1.out.cell 1
                      have e2 : wn.cell? ⟨wo.heap.size, 2, none⟩ = some (.int .i64 ti) := HX1.out.cell 2
                      have e3 : wn.cell? ⟨wo.heap.size, 3, none⟩ = some (.int .i64 lo) := HX1.out.cell 3
                      have e4 : wn.cell? ⟨wo.heap.size, 4, none⟩ = some (.int .i64 hi) := HX1.out.cell 4
                      have e5 : wn.cell? ⟨wo.heap.size, 5, none⟩ = some (.slice A2 n2 c2) := HX1.out.cell 5
                      have e6 : wn.cell? ⟨wo.heap.size, 6, none⟩ = some (.int .i64 lev) := HX1.out.cell 6
                      clear hxn honn hbn)
                   | (refine wpList_load_g 31 (.tmp 14) rfl rfl wo.heap.size rfl _ _ HX1.out _ Try.underlying31 rfl (by kernel_rfl) ?_))
                with_reducible refine (HF.out _ ((HG1.out.below HB.out hlg1).below HB1.out (by omega)) ((HG2.out.below HB.out hlg2).below HB1.out (by omega))).mono ?_
                rintro e w2 ⟨rfl, hb2⟩
                have HBB2 := Lib.hid (HBB1.out.trans (hb2.mono HBB1.out.size))
                have HX2 := Lib.hid (HX1.out.below hb2 hl1)
                have hsz2 : w1.heap.size ≤ w2.heap.size := HBB2.out.size
                have HBo2 := Lib.hid (HB1.out.trans (hb2.mono HB1.out.size))
                clear hb2
                have f0 : w2.cell? ⟨wo.heap.size, 0, none⟩ = some (.int .i64 ver) := HX2.out.cell 0
                have f1 : w2.cell? ⟨wo.heap.size, 1, none⟩ = some (.int .i64 fr) := HX2.out.cell 1
                have f2 : w2.cell? ⟨wo.heap.size, 2, none⟩ = some (.int .i64 ti) := HX2.out.cell 2
                have f3 : w2.cell? ⟨wo.heap.size, 3, none⟩ = some (.int .i64 lo) := HX2.out.cell 3
                have f4 : w2.cell? ⟨wo.heap.size, 4, none⟩ = some (.int .i64 hi) := HX2.out.cell 4
                have f5 : w2.cell? ⟨wo.heap.size, 5, none⟩ = some (.slice A2 n2 c2) := HX2.out.cell 5
                have f6 : w2.cell? ⟨wo.heap.size, 6, none⟩ = some (.int .i64 lev) := HX2.out.cell 6
                go_wp2_with fail
                with_reducible refine (HCt.out _ (HZr.out.below (HBo2.out.mono hsz))).mono ?_
                rintro e w3 ⟨rfl, hdr⟩
                have HBB3 := Lib.hid (HBB2.out.trans (hdr.below _))
                have HX3 : Hid (Blk w3 wo.heap.size 31 #[.int .i64 ver, .int .i64 fr, .int .i64 ti, .int .i64 lo, .int .i64 hi, .slice A2 n2 c2, .int .i64 lev]) := by obtain ⟨nd, rfl⟩ := hdr; exact HX2.out
                clear hdr
                have g0 : w3.cell? ⟨wo.heap.size, 0, none⟩ = some (.int .i64 ver) := HX3.out.cell 0
                have g1 : w3.cell? ⟨wo.heap.size, 1, none⟩ = some (.int .i64 fr) := HX3.out.cell 1
                have g2 : w3.cell? ⟨wo.heap.size, 2, none⟩ = some (.int .i64 ti) := HX3.out.cell 2
                have g3 : w3.cell? ⟨wo.heap.size, 3, none⟩ = some (.int .i64 lo) := HX3.out.cell 3
                have g4 : w3.cell? ⟨wo.heap.size, 4, none⟩ = some (.int .i64 hi) := HX3.out.cell 4
                have g5 : w3.cell? ⟨wo.heap.size, 5, none⟩ = some (.slice A2 n2 c2) := HX3.out.cell 5
                have g6 : w3.cell? ⟨wo.heap.size, 6, none⟩ = some (.int .i64 lev) := HX3.out.cell 6
                go_wp2_with fail
                go_roundw
                case rel => exact ⟨k + 1, by omega, by go_num, by rw [HN.out], HBB3.out⟩
                case measure => simp [intOf]; omega
            · have d2 : decide (low < hi) = false := by simpa using h2
              have HN : Hid (levF (placeB cv zone low high t) 0 (bs.take (k + 1)) = v) := hide (HSn.out.trans (if_neg (fun h => by rw [d2, Bool.and_false] at h; cases h.1)))
              go_wp2_with
                (first
                 | (refine wpList_load_at 31 (.tmp 22) rfl rfl (ad.add (k * 7)) rfl [.int .i64 ver, .int .i64 fr, .int .i64 ti, .int .i64 lo, .int .i64 hi, .slice A2 n2 c2, .int .i64 lev] HCs.out _ Try.underlying31 rfl (by kernel_rfl) ?_)
                 | (refine wpList_store_blk rfl 31 (.tmp 14) (.tmp 23) rfl wo.heap.size #[.int .i64 ver, .int .i64 fr, .int .i64 ti, .int .i64 lo, .int .i64 hi, .slice A2 n2 c2, .int .i64 lev] rfl rfl _ _ (Blk.new wo 31 #[.int .i64 0, .int .i64 0, .int .i64 0, .int .i64 0, .int .i64 0, .slice none 0 0, .int .i64 0]) (by kernel_rfl) rfl (by simp [Value.oneCell']) ?_
                    intro wn hxn honn
                    have hbn := honn.below (below_new wo (.cells #[.int .i64 0, .int .i64 0, .int .i64 0, .int .i64 0, .int .i64 0, .slice none 0 0, .int .i64 0] 31)) (Nat.le_refl _)
                    have HB1 := Lib.hid hbn
                    have HX1 := Lib.hid hxn
                    have hl1 : wo.heap.size < wn.heap.size := hxn.lt
                    have HBB1 := Lib.hid (HB.out.trans (HB1.out.mono hsz))
                    have e0 : wn.cell? ⟨wo.heap.size, 0, none⟩ = some (.int .i64 ver) := HX1.out.cell 0
                    have e1 : wn.cell? ⟨wo.heap.size, 1, none⟩ = some (.int .i64 fr) := HX1.out.cell 1
                    have e2 : wn.cell? ⟨wo.heap.size, 2, none⟩ = some (.int .i64 ti) := HX1.out.cell 2
                    have e3 : wn.cell? ⟨wo.heap.size, 3, none⟩ = some (.int .i64 lo) := HX1.out.cell 3
                    have e4 : wn.cell? ⟨wo.heap.size, 4, none⟩ = some (.int .i64 hi) := HX1.out.cell 4
                    have e5 : wn.cell? ⟨wo.heap.size, 5, none⟩ = some (.slice A2 n2 c2) := HX1.out.cell 5
                    have e6 : wn.cell? ⟨wo.heap.size, 6, none⟩ = some (.int .i64 lev) := HX1.out.cell 6
                    clear hxn honn hbn)
                 | (refine wpList_load_g 31 (.tmp 14) rfl rfl wo.heap.size rfl _ _ HX1.out _ Try.underlying31 rfl (by kernel_rfl) ?_))
              with_reducible refine (HF.out _ ((HG1.out.below HB.out hlg1).below HB1.out (by omega)) ((HG2.out.below HB.out hlg2).below HB1.out (by omega))).mono ?_
              rintro e w2 ⟨rfl, hb2⟩
              have HBB2 := Lib.hid (HBB1.out.trans (hb2.mono HBB1.out.size))
              have HX2 := Lib.hid (HX1.out.below hb2 hl1)
              have hsz2 : w1.heap.size ≤ w2.heap.size := HBB2.out.size
              have HBo2 := Lib.hid (HB1.out.trans (hb2.mono HB1.out.size))
              clear hb2
              have f0 : w2.cell? ⟨wo.heap.size, 0, none⟩ = some (.int .i64 ver) := HX2.out.cell 0
              have f1 : w2.cell? ⟨wo.heap.size, 1, none⟩ = some (.int .i64 fr) := HX2.out.cell 1
              have f2 : w2.cell? ⟨wo.heap.size, 2, none⟩ = some (.int .i64 ti) := HX2.out.cell 2
              have f3 : w2.cell? ⟨wo.heap.size, 3, none⟩ = some (.int .i64 lo) := HX2.out.cell 3
              have f4 : w2.cell? ⟨wo.heap.size, 4, none⟩ = some (.int .i64 hi) := HX2.out.cell 4
              have f5 : w2.cell? ⟨wo.heap.size, 5, none⟩ = some (.slice A2 n2 c2) := HX2.out.cell 5
              have f6 : w2.cell? ⟨wo.heap.size, 6, none⟩ = some (.int .i64 lev) := HX2.out.cell 6
              go_wp2_with fail
              with_reducible refine (HCt.out _ (HZr.out.below (HBo2.out.mono hsz))).mono ?_
              rintro e w3 ⟨rfl, hdr⟩
              have HBB3 := Lib.hid (HBB2.out.trans (hdr.below _))
              have HX3 : Hid (Blk w3 wo.heap.size 31 #[.int .i64 ver, .int .i64 fr, .int .i64 ti, .int .i64 lo, .int .i64 hi, .slice A2 n2 c2, .int .i64 lev]) := by obtain ⟨nd, rfl⟩ := hdr; exact HX2.out
              clear hdr
              have g0 : w3.cell? ⟨wo.heap.size, 0, none⟩ = some (.int .i64 ver) := HX3.out.cell 0
              have g1 : w3.cell? ⟨wo.heap.size, 1, none⟩ = some (.int .i64 fr) := HX3.out.cell 1
              have g2 : w3.cell? ⟨wo.heap.size, 2, none⟩ = some (.int .i64 ti) := HX3.out.cell 2
              have g3 : w3.cell? ⟨wo.heap.size, 3, none⟩ = some (.int .i64 lo) := HX3.out.cell 3
              have g4 : w3.cell? ⟨wo.heap.size, 4, none⟩ = some (.int .i64 hi) := HX3.out.cell 4
              have g5 : w3.cell? ⟨wo.heap.size, 5, none⟩ = some (.slice A2 n2 c2) := HX3.out.cell 5
              have g6 : w3.cell? ⟨wo.heap.size, 6, none⟩ = some (.int .i64 lev) := HX3.out.cell 6
              go_wp2_with fail
              go_roundw
              case rel => exact ⟨k + 1, by omega, by go_num, by rw [HN.out], HBB3.out⟩
              case measure => simp [intOf]; omega
          · have d1 : decide (lo < high) = false := by simpa using h1
            have HN : Hid (levF (placeB cv zone low high t) 0 (bs.take (k + 1)) = v) := hide (HSn.out.trans (if_neg (fun h => by rw [d1, Bool.and_false, Bool.false_and] at h; cases h.1)))
            go_wp2_with
              (first
               | (refine wpList_load_at 31 (.tmp 22) rfl rfl (ad.add (k * 7)) rfl [.int .i64 ver, .int .i64 fr, .int .i64 ti, .int .i64 lo, .int .i64 hi, .slice A2 n2 c2, .int .i64 lev] HCs.out _ Try.underlying31 rfl (by kernel_rfl) ?_)
               | (refine wpList_store_blk rfl 31 (.tmp 14) (.tmp 23) rfl wo.heap.size #[.int .i64 ver, .int .i64 fr, .int .i64 ti, .int .i64 lo, .int .i64 hi, .slice A2 n2 c2, .int .i64 lev] rfl rfl _ _ (Blk.new wo 31 #[.int .i64 0, .int .i64 0, .int .i64 0, .int .i64 0, .int .i64 0, .slice none 0 0, .int .i64 0]) (by kernel_rfl) rfl (by simp [Value.oneCell']) ?_
                  intro wn hxn honn
                  have hbn := honn.below (below_new wo (.cells #[.int .i64 0, .int .i64 0, .int .i64 0, .int .i64 0, .int .i64 0, .slice none 0 0, .int .i64 0] 31)) (Nat.le_refl _)
                  have HB1 := Lib.hid hbn
                  have HX1 := Lib.hid hxn
                  have hl1 : wo.heap.size < wn.heap.size := hxn.lt
                  have HBB1 := Lib.hid (HB.out.trans (HB1.out.mono hsz))
                  have e0 : wn.cell? ⟨wo.heap.size, 0, none⟩ = some (.int .i64 ver) := HX1.out.cell 0
                  have e1 : wn.cell? ⟨wo.heap.size, 1, none⟩ = some (.int .i64 fr) := HX1.out.cell 1
                  have e2 : wn.cell? ⟨wo.heap.size, 2, none⟩ = some (.int .i64 ti) := HX1.out.cell 2
                  have e3 : wn.cell? ⟨wo.heap.size, 3, none⟩ = some (.int .i64 lo) := HX1.out.cell 3
                  have e4 : wn.cell? ⟨wo.heap.size, 4, none⟩ = some (.int .i64 hi) := HX1.out.cell 4
                  have e5 : wn.cell? ⟨wo.heap.size, 5, none⟩ = some (.slice A2 n2 c2) := HX1.out.cell 5
                  have e6 : wn.cell? ⟨wo.heap.size, 6, none⟩ = some (.int .i64 lev) := HX1.out.cell 6
                  clear hxn honn hbn)
               | (refine wpList_load_g 31 (.tmp 14) rfl rfl wo.heap.size rfl _ _ HX1.out _ Try.underlying31 rfl (by kernel_rfl) ?_))
            with_reducible refine (HF.out _ ((HG1.out.below HB.out hlg1).below HB1.out (by omega)) ((HG2.out.below HB.out hlg2).below HB1.out (by omega))).mono ?_
            rintro e w2 ⟨rfl, hb2⟩
            have HBB2 := Lib.hid (HBB1.out.trans (hb2.mono HBB1.out.size))
            have HX2 := Lib.hid (HX1.out.below hb2 hl1)
            have hsz2 : w1.heap.size ≤ w2.heap.size := HBB2.out.size
            have HBo2 := Lib.hid (HB1.out.trans (hb2.mono HB1.out.size))
            clear hb2
            have f0 : w2.cell? ⟨wo.heap.size, 0, none⟩ = some (.int .i64 ver) := HX2.out.cell 0
            have f1 : w2.cell? ⟨wo.heap.size, 1, none⟩ = some (.int .i64 fr) := HX2.out.cell 1
            have f2 : w2.cell? ⟨wo.heap.size, 2, none⟩ = some (.int .i64 ti) := HX2.out.cell 2
            have f3 : w2.cell? ⟨wo.heap.size, 3, none⟩ = some (.int .i64 lo) := HX2.out.cell 3
            have f4 : w2.cell? ⟨wo.heap.size, 4, none⟩ = some (.int .i64 hi) := HX2.out.cell 4
            have f5 : w2.cell? ⟨wo.heap.size, 5, none⟩ = some (.slice A2 n2 c2) := HX2.out.cell 5
            have f6 : w2.cell? ⟨wo.heap.size, 6, none⟩ = some (.int .i64 lev) := HX2.out.cell 6
            go_wp2_with fail
            with_reducible refine (HCt.out _ (HZr.out.below (HBo2.out.mono hsz))).mono ?_
            rintro e w3 ⟨rfl, hdr⟩
            have HBB3 := Lib.hid (HBB2.out.trans (hdr.below _))
            have HX3 : Hid (Blk w3 wo.heap.size 31 #[.int .i64 ver, .int .i64 fr, .int .i64 ti, .int .i64 lo, .int .i64 hi, .slice A2 n2 c2, .int .i64 lev]) := by obtain ⟨nd, rfl⟩ := hdr; exact HX2.out
            clear hdr
            have g0 : w3.cell? ⟨wo.heap.size, 0, none⟩ = some (.int .i64 ver) := HX3.out.cell 0
            have g1 : w3.cell? ⟨wo.heap.size, 1, none⟩ = some (.int .i64 fr) := HX3.out.cell 1
            have g2 : w3.cell? ⟨wo.heap.size, 2, none⟩ = some (.int .i64 ti) := HX3.out.cell 2
            have g3 : w3.cell? ⟨wo.heap.size, 3, none⟩ = some (.int .i64 lo) := HX3.out.cell 3
            have g4 : w3.cell? ⟨wo.heap.size, 4, none⟩ = some (.int .i64 hi) := HX3.out.cell 4
            have g5 : w3.cell? ⟨wo.heap.size, 5, none⟩ = some (.slice A2 n2 c2) := HX3.out.cell 5
            have g6 : w3.cell? ⟨wo.heap.size, 6, none⟩ = some (.int .i64 lev) := HX3.out.cell 6
            go_wp2_with fail
            go_roundw
            case rel => exact ⟨k + 1, by omega, by go_num, by rw [HN.out], HBB3.out⟩
            case measure => simp [intOf]; omega
        | false =>
          have HN : Hid (levF (placeB cv zone low high t) 0 (bs.take (k + 1)) = v) := hide (HSn.out.trans (if_neg (fun h => by cases h.1)))
          go_wp2_with
            (first
             | (refine wpList_load_at 31 (.tmp 22) rfl rfl (ad.add (k * 7)) rfl [.int .i64 ver, .int .i64 fr, .int .i64 ti, .int .i64 lo, .int .i64 hi, .slice A2 n2 c2, .int .i64 lev] HCs.out _ Try.underlying31 rfl (by kernel_rfl) ?_)
             | (refine wpList_store_blk rfl 31 (.tmp 14) (.tmp 23) rfl wo.heap.size #[.int .i64 ver, .int .i64 fr, .int .i64 ti, .int .i64 lo, .int .i64 hi, .slice A2 n2 c2, .int .i64 lev] rfl rfl _ _ (Blk.new wo 31 #[.int .i64 0, .int .i64 0, .int .i64 0, .int .i64 0, .int .i64 0, .slice none 0 0, .int .i64 0]) (by kernel_rfl) rfl (by simp [Value.oneCell']) ?_
                intro wn hxn honn
                have hbn := honn.below (below_new wo (.cells #[.int .i64 0, .int .i64 0, .int .i64 0, .int .i64 0, .int .i64 0, .slice none 0 0, .int .i64 0] 31)) (Nat.le_refl _)
                have HB1 := Lib.hid hbn
                have HX1 := Lib.hid hxn
                have hl1 : wo.heap.size < wn.heap.size := hxn.lt
                have HBB1 := Lib.hid (HB.out.trans (HB1.out.mono hsz))
                have e0 : wn.cell? ⟨wo.heap.size, 0, none⟩ = some (.int .i64 ver) := HX1.out.cell 0
                have e1 : wn.cell? ⟨wo.heap.size, 1, none⟩ = some (.int .i64 fr) := HX1.out.cell 1
                have e2 : wn.cell? ⟨wo.heap.size, 2, none⟩ = some (.int .i64 ti) := HX1.out.cell 2
                have e3 : wn.cell? ⟨wo.heap.size, 3, none⟩ = some (.int .i64 lo) := HX1.out.cell 3
                have e4 : wn.cell? ⟨wo.heap.size, 4, none⟩ = some (.int .i64 hi) := HX1.out.cell 4
                have e5 : wn.cell? ⟨wo.heap.size, 5, none⟩ = some (.slice A2 n2 c2) := HX1.out.cell 5
                have e6 : wn.cell? ⟨wo.heap.size, 6, none⟩ = some (.int .i64 lev) := HX1.out.cell 6
                clear hxn honn hbn)
             | (refine wpList_load_g 31 (.tmp 14) rfl rfl wo.heap.size rfl _ _ HX1.out _ Try.underlying31 rfl (by kernel_rfl) ?_))
          with_reducible refine (HF.out _ ((HG1.out.below HB.out hlg1).below HB1.out (by omega)) ((HG2.out.below HB.out hlg2).below HB1.out (by omega))).mono ?_
          rintro e w2 ⟨rfl, hb2⟩
          have HBB2 := Lib.hid (HBB1.out.trans (hb2.mono HBB1.out.size))
          have HX2 := Lib.hid (HX1.out.below hb2 hl1)
          have hsz2 : w1.heap.size ≤ w2.heap.size := HBB2.out.size
          have HBo2 := Lib.hid (HB1.out.trans (hb2.mono HB1.out.size))
          clear hb2
          have f0 : w2.cell? ⟨wo.heap.size, 0, none⟩ = some (.int .i64 ver) := HX2.out.cell 0
          have f1 : w2.cell? ⟨wo.heap.size, 1, none⟩ = some (.int .i64 fr) := HX2.out.cell 1
          have f2 : w2.cell? ⟨wo.heap.size, 2, none⟩ = some (.int .i64 ti) := HX2.out.cell 2
          have f3 : w2.cell? ⟨wo.heap.size, 3, none⟩ = some (.int .i64 lo) := HX2.out.cell 3
          have f4 : w2.cell? ⟨wo.heap.size, 4, none⟩ = some (.int .i64 hi) := HX2.out.cell 4
          have f5 : w2.cell? ⟨wo.heap.size, 5, none⟩ = some (.slice A2 n2 c2) := HX2.out.cell 5
          have f6 : w2.cell? ⟨wo.heap.size, 6, none⟩ = some (.int .i64 lev) := HX2.out.cell 6
          go_wp2_with fail
          with_reducible refine (HCt.out _ (HZr.out.below (HBo2.out.mono hsz))).mono ?_
          rintro e w3 ⟨rfl, hdr⟩
          have HBB3 := Lib.hid (HBB2.out.trans (hdr.below _))
          have HX3 : Hid (Blk w3 wo.heap.size 31 #[.int .i64 ver, .int .i64 fr, .int .i64 ti, .int .i64 lo, .int .i64 hi, .slice A2 n2 c2, .int .i64 lev]) := by obtain ⟨nd, rfl⟩ := hdr; exact HX2.out
          clear hdr
          have g0 : w3.cell? ⟨wo.heap.size, 0, none⟩ = some (.int .i64 ver) := HX3.out.cell 0
          have g1 : w3.cell? ⟨wo.heap.size, 1, none⟩ = some (.int .i64 fr) := HX3.out.cell 1
          have g2 : w3.cell? ⟨wo.heap.size, 2, none⟩ = some (.int .i64 ti) := HX3.out.cell 2
          have g3 : w3.cell? ⟨wo.heap.size, 3, none⟩ = some (.int .i64 lo) := HX3.out.cell 3
          have g4 : w3.cell? ⟨wo.heap.size, 4, none⟩ = some (.int .i64 hi) := HX3.out.cell 4
          have g5 : w3.cell? ⟨wo.heap.size, 5, none⟩ = some (.slice A2 n2 c2) := HX3.out.cell 5
          have g6 : w3.cell? ⟨wo.heap.size, 6, none⟩ = some (.int .i64 lev) := HX3.out.cell 6
          go_wp2_with fail
          go_roundw
          case rel => exact ⟨k + 1, by omega, by go_num, by rw [HN.out], HBB3.out⟩
          case measure => simp [intOf]; omega
      | false =>
        have HN : Hid (levF (placeB cv zone low high t) 0 (bs.take (k + 1)) = v) := hide (HSn.out.trans (if_neg (fun h => by cases h.1)))
        go_wp2_with
          (first
           | (refine wpList_load_at 31 (.tmp 22) rfl rfl (ad.add (k * 7)) rfl [.int .i64 ver, .int .i64 fr, .int .i64 ti, .int .i64 lo, .int .i64 hi, .slice A2 n2 c2, .int .i64 lev] HCs.out _ Try.underlying31 rfl (by kernel_rfl) ?_)
           | (refine wpList_store_blk rfl 31 (.tmp 14) (.tmp 23) rfl wo.heap.size #[.int .i64 ver, .int .i64 fr, .int .i64 ti, .int .i64 lo, .int .i64 hi, .slice A2 n2 c2, .int .i64 lev] rfl rfl _ _ (Blk.new wo 31 #[.int .i64 0, .int .i64 0, .int .i64 0, .int .i64 0, .int .i64 0, .slice none 0 0, .int .i64 0]) (by kernel_rfl) rfl (by simp [Value.oneCell']) ?_
              intro wn hxn honn
              have hbn := honn.below (below_new wo (.cells #[.int .i64 0, .int .i64 0, .int .i64 0, .int .i64 0, .int .i64 0, .slice none 0 0, .int .i64 0] 31)) (Nat.le_refl _)
              have HB1 := Lib.hid hbn
              have HX1 := Lib.hid hxn
              have hl1 : wo.heap.size < wn.heap.size := hxn.lt
              have HBB1 := Lib.hid (HB.out.trans (HB1.out.mono hsz))
              have e0 : wn.cell? ⟨wo.heap.size, 0, none⟩ = some (.int .i64 ver) := HX1.out.cell 0
              have e1 : wn.cell? ⟨wo.heap.size, 1, none⟩ = some (.int .i64 fr) := HX1.out.cell 1
              have e2 : wn.cell? ⟨wo.heap.size, 2, none⟩ = some (.int .i64 ti) := HX1.out.cell 2
              have e3 : wn.cell? ⟨wo.heap.size, 3, none⟩ = some (.int .i64 lo) := HX1.out.cell 3
              have e4 : wn.cell? ⟨wo.heap.size, 4, none⟩ = some (.int .i64 hi) := HX1.out.cell 4
              have e5 : wn.cell? ⟨wo.heap.size, 5, none⟩ = some (.slice A2 n2 c2) := HX1.out.cell 5
              have e6 : wn.cell? ⟨wo.heap.size, 6, none⟩ = some (.int .i64 lev) := HX1.out.cell 6
              clear hxn honn hbn)
           | (refine wpList_load_g 31 (.tmp 14) rfl rfl wo.heap.size rfl _ _ HX1.out _ Try.underlying31 rfl (by kernel_rfl) ?_))
        with_reducible refine (HF.out _ ((HG1.out.below HB.out hlg1).below HB1.out (by omega)) ((HG2.out.below HB.out hlg2).below HB1.out (by omega))).mono ?_
        rintro e w2 ⟨rfl, hb2⟩
        have HBB2 := Lib.hid (HBB1.out.trans (hb2.mono HBB1.out.size))
        have HX2 := Lib.hid (HX1.out.below hb2 hl1)
        have hsz2 : w1.heap.size ≤ w2.heap.size := HBB2.out.size
        have HBo2 := Lib.hid (HB1.out.trans (hb2.mono HB1.out.size))
        clear hb2
        have f0 : w2.cell? ⟨wo.heap.size, 0, none⟩ = some (.int .i64 ver) := HX2.out.cell 0
        have f1 : w2.cell? ⟨wo.heap.size, 1, none⟩ = some (.int .i64 fr) := HX2.out.cell 1
        have f2 : w2.cell? ⟨wo.heap.size, 2, none⟩ = some (.int .i64 ti) := HX2.out.cell 2
        have f3 : w2.cell? ⟨wo.heap.size, 3, none⟩ = some (.int .i64 lo) := HX2.out.cell 3
        have f4 : w2.cell? ⟨wo.heap.size, 4, none⟩ = some (.int .i64 hi) := HX2.out.cell 4
        have f5 : w2.cell? ⟨wo.heap.size, 5, none⟩ = some (.slice A2 n2 c2) := HX2.out.cell 5
        have f6 : w2.cell? ⟨wo.heap.size, 6, none⟩ = some (.int .i64 lev) := HX2.out.cell 6
        go_wp2_with fail
        go_roundw
        case rel => exact ⟨k + 1, by omega, by go_num, by rw [HN.out], HBB2.out⟩
        case measure => simp [intOf]; omega
    · obtain rfl : k = n := by omega
      rw [List.take_of_length_le (by rw [HL.out]; exact Nat.le_refl _)]
      go_wp2_with fail
      go_ret
      exact ⟨rfl, HB0.out.trans (HB.out.mono HB0.out.size)⟩
end Go.Proofs.Ytmbdlnimegdigaa
