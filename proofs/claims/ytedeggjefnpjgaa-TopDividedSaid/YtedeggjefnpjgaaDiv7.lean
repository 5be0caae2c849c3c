/-
  upload of the law walked.
-/
import Derived.Test.YtedeggjefnpjgaaDiv6
namespace Go.Proofs.Ytedeggjefnpjgaa
open Go.RowKit

set_option maxRecDepth 100000 in
set_option maxHeartbeats 16000000 in
theorem upload_any (n : Nat) (x : Lk) (v : Value) (w : World) (h : OKL n x) (hv : LnV w n x v) : Calls Try.prog 11 #[v] w (LkR n (uploadN n x) w) := by
  obtain ⟨vp, vm, vo, vg, ve, rfl, hnet, ho, hg, he⟩ := hv
  have hn20 := h.n20
  have hak := h.inv.ak
  have hkn := h.inv.kn
  obtain ⟨d, hd⟩ : ∃ d, n - x.a = d := ⟨_, rfl⟩
  have hd20 : d ≤ 20 := by omega
  have HSend : Hid (∀ c W vp vm bA bn bc, c < d → NetO W vp vm [0, x.p] ((sendN c (x.a + 1) x.mail).map ltN) → Bytes W W.heap.size bA bn (ltN (.up (x.a + 1 + c))).bd → Calls Try.prog 23 #[.agg #[vp, vm], .int .i64 1, .int .i64 0, .slice bA bn bc] W (SnR x.p (.up (x.a + 1 + c)) (sendN c (x.a + 1) x.mail) W)) := fun c W vp vm bA bn bc hc hN hb => send_ms n x.k x.p (.up (x.a + 1 + c)) (sendN c (x.a + 1) x.mail) vp vm bA bn bc W hn20 hkn (send_ok _ _ _ (by omega) (by omega) h.inv.ms) ⟨by omega, by omega⟩ (sendN_len _ _ _ h.len) hN hb
  have HWr : Hid (∀ c g W, c < d → Blk W g 55 (Rd.cells (rdN (x.a + 1 + c))).toArray → Calls Try.prog 31 #[.slice (some ⟨g, 0, none⟩) 1 1] W fun e w' => ∃ A n c', e = .returned (.tuple #[.slice A n c', .int .i64 0]) ∧ Bytes w' w'.heap.size A n (ltN (.up (x.a + 1 + c))).bd ∧ Below W.heap.size W w') := fun c g W hc hB => write_ms _ g W (by omega) hB
  have HFin : Hid (∀ vp' vm' w', NetO w' vp' vm' [0, x.p] ((sendN d (x.a + 1) x.mail).map ltN) → Below w.heap.size w w' → LkR n (uploadN n x) w (.returned (.agg #[vp', vm', .int .i64 4, .int .i64 ((n : Int) + 1), vo, .int .i64 4, .int .i64 ((x.k : Int) + 1), vg, ve, .bool true])) w') := fun vp' vm' w' h1 h2 => ⟨_, rfl, ⟨vp', vm', vo, vg, ve, rfl, by rw [← hd] at h1; exact h1, ho.now h2, hg.now h2, he.now h2⟩, h2⟩
  have HN := Lib.hid hnet
  obtain ⟨oA, on, oc, rfl, HLo, hos⟩ := ho.parts
  obtain ⟨gA, gn, gc, rfl, _, _⟩ := hg.parts
  obtain ⟨eA, en, ec, rfl, _, _⟩ := he.parts
  obtain ⟨pA, pc, mA, mn, mc, rfl, rfl, _, _, _⟩ := hnet.nam
  generalize LkR n (uploadN n x) w = RR at *
  have HPend : Hid (∀ W, Below w.heap.size w W → Calls Try.prog 30 #[.agg #[.int .i64 4, .int .i64 ((n : Int) + 1), .slice oA on oc]] W (fun e w' => ∃ v, e = .returned v ∧ OwnRd w' W.heap.size v (rdsN (x.a + 1) d) ∧ Below W.heap.size W w')) := fun W hW => by
    rw [← hd]
    exact pending_any 4 ((n : Int) + 1) oA on oc (rdsN (x.a + 1) (n - x.a)) W (hos.now hW) HLo.out (by have := HLo.out; rw [rdsN_len] at this; omega)
  clear hos ho hg he hnet HLo hak
  obtain ⟨n1, hn1⟩ : ∃ n1, (n : Int) + 1 = n1 := ⟨_, rfl⟩
  obtain ⟨k1, hk1⟩ : ∃ k1, (x.k : Int) + 1 = k1 := ⟨_, rfl⟩
  rw [hn1] at HPend HFin ⊢
  rw [hk1] at HFin ⊢
  clear hn1 hk1 hd
  obtain ⟨a1, ha1⟩ : ∃ a1, x.a + 1 = a1 := ⟨_, rfl⟩
  rw [ha1] at HPend HFin HSend HWr
  clear ha1
  generalize x.mail = mail at *
  generalize x.p = p at *
  clear h hn20 hkn
  go_enter Try.func11, Try.ntmps11
  go_upto_region 1 with (fail)
  have hwz : (w.alloc (Obj.cells #[Value.slice pA 2 pc, Value.slice mA mn mc, Value.int .i64 4, Value.int .i64 n1, Value.slice oA on oc, Value.int .i64 4, Value.int .i64 k1, Value.slice gA gn gc, Value.slice eA en ec, Value.bool true] 34)).heap.size = w.heap.size + 1 := by simp
  obtain ⟨w0, hw0⟩ : ∃ W, w.alloc (Obj.cells #[Value.slice pA 2 pc, Value.slice mA mn mc, Value.int .i64 4, Value.int .i64 n1, Value.slice oA on oc, Value.int .i64 4, Value.int .i64 k1, Value.slice gA gn gc, Value.slice eA en ec, Value.bool true] 34) = W := ⟨_, rfl⟩
  rw [hw0] at hwz ⊢
  have HX0 : Hid (Blk w0 w.heap.size 34 #[.slice pA 2 pc, .slice mA mn mc, .int .i64 4, .int .i64 n1, .slice oA on oc, .int .i64 4, .int .i64 k1, .slice gA gn gc, .slice eA en ec, .bool true]) := hide (by rw [← hw0]; exact Blk.new w _ _)
  have HB0 : Hid (Below w.heap.size w w0) := hide (by rw [← hw0]; exact below_new w _)
  obtain ⟨w1, hw1⟩ : ∃ W, w0.alloc (Obj.cells #[Value.slice none 0 0, Value.slice none 0 0, Value.int .i64 0, Value.int .i64 0, Value.slice none 0 0, Value.int .i64 0, Value.int .i64 0, Value.slice none 0 0, Value.slice none 0 0, Value.bool false] 34) = W := ⟨_, rfl⟩
  rw [hw1]
  have HY1 : Hid (Blk w1 (w.heap.size + 1) 34 #[.slice none 0 0, .slice none 0 0, .int .i64 0, .int .i64 0, .slice none 0 0, .int .i64 0, .int .i64 0, .slice none 0 0, .slice none 0 0, .bool false]) := hide (by rw [← hw1, ← hwz]; exact Blk.new w0 _ _)
  have hb1 : Below w0.heap.size w0 w1 := by rw [← hw1]; exact below_new w0 _
  have HX1 := Lib.hid (HX0.out.below hb1 (by omega))
  have HB1 := Lib.hid (HB0.out.trans (hb1.mono HB0.out.size))
  have hs1 : w.heap.size + 2 ≤ w1.heap.size := by have := HY1.out.lt; omega
  clear hw0 hw1 hb1 hwz HX0 HB0
  go_wp2_with (refine wpList_load_at 30 (.tmp 8) rfl rfl ⟨w.heap.size, 2, none⟩ rfl [.int .i64 4, .int .i64 n1, .slice oA on oc] (HX1.out.part 2 _ rfl) _ Try.underlying30 rfl (by kernel_rfl) ?_)
  with_reducible refine (HPend.out w1 HB1.out).mono ?_
  rintro e w2 ⟨v2, rfl, ho2, hb2⟩
  have HB2 := Lib.hid (HB1.out.trans (hb2.mono HB1.out.size))
  have HX2 := Lib.hid (HX1.out.below hb2 (by omega))
  have HY2 := Lib.hid (HY1.out.below hb2 (by omega))
  have hs2 : w.heap.size + 2 ≤ w2.heap.size := Nat.le_trans hs1 hb2.size
  obtain ⟨lA, ln, lc, rfl, HLn, hls⟩ := (OwnRd.to0 ho2).parts
  obtain rfl : d = ln := by rw [← HLn.out, rdsN_len]
  have HLs := Lib.hid (OwnRd.to0 ho2)
  have HN2 := Lib.hid (HN.out.now HB2.out)
  clear ho2 hb2 hls HX1 HY1 HB1 HPend hs1 HN
  go_wp2_with fail
  go_loopw [4] (fun i wr => ∃ (c : Nat) (pA : Option Addr) (pn pc : Nat) (mA : Option Addr) (mn mc : Nat), c ≤ d ∧ i = .int .i64 c ∧ Blk wr w.heap.size 34 #[.slice pA pn pc, .slice mA mn mc, .int .i64 4, .int .i64 n1, .slice oA on oc, .int .i64 4, .int .i64 k1, .slice gA gn gc, .slice eA en ec, .bool true] ∧ Blk wr (w.heap.size + 1) 34 #[.slice none 0 0, .slice none 0 0, .int .i64 0, .int .i64 0, .slice none 0 0, .int .i64 0, .int .i64 0, .slice none 0 0, .slice none 0 0, .bool false] ∧ NetO wr (.slice pA pn pc) (.slice mA mn mc) [0, p] ((sendN c a1 mail).map ltN) ∧ OwnRd wr 0 (.slice lA d lc) (rdsN a1 d) ∧ Below w.heap.size w wr) (fun i _ => d - (intOf i).toNat)
  case atStart => exact ⟨0, pA, 2, pc, mA, mn, mc, by omega, rfl, HX2.out, HY2.out, HN2.out, HLs.out, HB2.out⟩
  case round =>
    obtain ⟨c, qA, qn, qc, rA, rn, rc, hc, rfl, hX, hY, hN, hL, hB⟩ := hrel
    obtain ⟨wo, rfl⟩ : ∃ wo : World, wo = wr := ⟨_, rfl⟩
    have HXo := Lib.hid hX
    have HYo := Lib.hid hY
    have HNo := Lib.hid hN
    have HLo := Lib.hid hL
    have HBo := Lib.hid hB
    have hso : w.heap.size + 2 ≤ wo.heap.size := by have := hY.lt; omega
    clear hX hY hN hL hB
    by_cases hlt : c < d
    · obtain ⟨lA', ln', lc', e1, _, hls⟩ := HLo.out.parts
      injection e1 with e1 e2 e3
      subst e1 e2 e3
      obtain ⟨ad, rfl, hadb, hcl⟩ := strs_at hls (fun _ => rfl) HLn.out hlt rd0
      rw [rdsN_at hlt] at hcl
      obtain ⟨q, hq⟩ : ∃ q, rdN (a1 + c) = q := ⟨_, rfl⟩
      rw [hq] at hcl
      have HW1 : Hid (∀ W, Blk W wo.heap.size 55 (Rd.cells q).toArray → Calls Try.prog 31 #[.slice (some ⟨wo.heap.size, 0, none⟩) 1 1] W fun e w' => ∃ A n c', e = .returned (.tuple #[.slice A n c', .int .i64 0]) ∧ Bytes w' w'.heap.size A n (ltN (.up (a1 + c))).bd ∧ Below W.heap.size W w') := fun W hW => HWr.out c _ W hlt (by rw [hq]; exact hW)
      have HS1 := Lib.hid (HSend.out c)
      have hlast := Lib.hid (sendN_last c a1 mail)
      obtain ⟨gate, seq, ser, cnt, prod, lift, att⟩ := q
      have HCl : Hid (∀ i u, ([.int .i64 gate, .int .i64 seq, .int .i64 ser, .int .i64 cnt, .int .i64 prod, .int .i64 lift, .int .i64 att] : List Value)[i]? = some u → wo.cell? ((ad.add (c * 7)).add i) = some u) := hcl
      clear hcl hq hls hadb
      go_wp2_with (refine wpList_load_at 55 (.tmp 20) rfl rfl (ad.add (c * 7)) rfl [.int .i64 gate, .int .i64 seq, .int .i64 ser, .int .i64 cnt, .int .i64 prod, .int .i64 lift, .int .i64 att] HCl.out _ Try.underlying55 rfl (by kernel_rfl) ?_)
      with_reducible refine (HW1.out _ (Blk.new wo _ _)).mono ?_
      rintro e w3 ⟨bA, bn, bc, rfl, hbs, hb3⟩
      have hb3' : Below wo.heap.size wo w3 := (below_new wo _).trans (hb3.mono (below_new wo _).size)
      have HX3 := Lib.hid (HXo.out.below hb3' (by omega))
      have HY3 := Lib.hid (HYo.out.below hb3' (by omega))
      have HN3 := Lib.hid (HNo.out.now hb3')
      have HL3 := Lib.hid (HLo.out.now hb3')
      have HB3 := Lib.hid (HBo.out.trans (hb3'.mono HBo.out.size))
      have hs3 : w.heap.size + 2 ≤ w3.heap.size := Nat.le_trans hso hb3'.size
      have HBy := Lib.hid hbs
      clear hb3 hb3' hbs HXo HYo HNo HLo HBo HCl HW1
      go_wp2_with (refine wpList_load_at 27 (.tmp 31) rfl rfl ⟨w.heap.size, 0, none⟩ rfl [.slice qA qn qc, .slice rA rn rc] (HX3.out.part 0 _ rfl) _ Try.underlying27 rfl (by kernel_rfl) ?_)
      with_reducible refine (HS1.out w3 _ _ bA bn bc hlt HN3.out HBy.out).mono ?_
      rintro e w4 ⟨r, sA, sn, sc, tA, tn, tc, rfl, hb4, hr⟩
      have HX4 := Lib.hid (HX3.out.below hb4 (by omega))
      have HY4 := Lib.hid (HY3.out.below hb4 (by omega))
      have HN4 := Lib.hid (HN3.out.now hb4)
      have HL4 := Lib.hid (HL3.out.now hb4)
      have HB4 := Lib.hid (HB3.out.trans (hb4.mono HB3.out.size))
      have hs4 : w.heap.size + 2 ≤ w4.heap.size := Nat.le_trans hs3 hb4.size
      clear hb4 HX3 HY3 HN3 HL3 HB3 HBy
      rcases hr with ⟨rfl, hn4⟩ | ⟨rfl, hst⟩
      · have HM4 := Lib.hid hn4
        clear hn4
        go_upto_region 10 with (fail)
        have HBw5 := (Blk.new w4 27 #[.slice sA sn sc, .slice tA tn tc])
        have HLw5 := (below_new w4 (.cells #[.slice sA sn sc, .slice tA tn tc] 27))
        have hsw5 : (w4.alloc (.cells #[.slice sA sn sc, .slice tA tn tc] 27)).heap.size = w4.heap.size + 1 := by simp
        generalize w4.alloc (.cells #[.slice sA sn sc, .slice tA tn tc] 27) = w5 at HBw5 HLw5 hsw5 ⊢
        replace HBw5 := Lib.hid HBw5
        replace HLw5 := Lib.hid HLw5
        have hlw5 : w4.heap.size < w5.heap.size := by omega
        replace hsw5 := Lib.hid hsw5
        have HX5 := Lib.hid (HX4.out.below HLw5.out (by omega))
        have HY5 := Lib.hid (HY4.out.below HLw5.out (by omega))
        have HM5 := Lib.hid (HM4.out.now HLw5.out)
        have HL5 := Lib.hid (HL4.out.now HLw5.out)
        have HB5 : Hid (Below w.heap.size w w5) := hide (HB4.out.trans (HLw5.out.mono HB4.out.size))
        clear HX4 HY4 HM4 HL4 HB4 HN4
        go_wp2_with
          (first
           | (refine wpList_load_blk rfl 27 (.tmp 7) rfl w4.heap.size rfl _ _ HBw5.out _ Try.underlying27 rfl (by kernel_rfl) ?_)
           | (refine wpList_store_part 27 (.tmp 40) (.tmp 39) rfl rfl w.heap.size 0 #[.slice sA sn sc, .slice tA tn tc] rfl rfl 34 _ HX5.out (by kernel_rfl) (by simp) (by simp [Value.oneCell']) #[.slice sA sn sc, .slice tA tn tc, .int .i64 4, .int .i64 n1, .slice oA on oc, .int .i64 4, .int .i64 k1, .slice gA gn gc, .slice eA en ec, .bool true] rfl ?_
              intro w6 hx6 hon6
              have HX6 := Lib.hid hx6
              have HY6 := Lib.hid (hon6.blk HY5.out (by omega))
              have HM6 := Lib.hid (HM5.out.onlyT hon6 HX5.out (by decide) (by decide) (by decide))
              have HL6 := Lib.hid (HL5.out.onlyT hon6 HX5.out (by decide))
              have HB6 : Hid (Below w.heap.size w w6) := hide (hon6.below HB5.out (Nat.le_refl _))
              clear hx6 hon6))
        go_roundw
        case rel => exact ⟨c + 1, sA, sn, sc, tA, tn, tc, by omega, by go_num, HX6.out, HY6.out, by rw [hlast.out]; exact HM6.out, HL6.out, HB6.out⟩
        case measure => simp [intOf]; omega
      · have HE := Lib.hid hst
        clear hst
        go_upto_region 10 with (fail)
        have HBw5 := (Blk.new w4 27 #[.slice sA sn sc, .slice tA tn tc])
        have HLw5 := (below_new w4 (.cells #[.slice sA sn sc, .slice tA tn tc] 27))
        have hsw5 : (w4.alloc (.cells #[.slice sA sn sc, .slice tA tn tc] 27)).heap.size = w4.heap.size + 1 := by simp
        generalize w4.alloc (.cells #[.slice sA sn sc, .slice tA tn tc] 27) = w5 at HBw5 HLw5 hsw5 ⊢
        replace HBw5 := Lib.hid HBw5
        replace HLw5 := Lib.hid HLw5
        have hlw5 : w4.heap.size < w5.heap.size := by omega
        replace hsw5 := Lib.hid hsw5
        have HX5 := Lib.hid (HX4.out.below HLw5.out (by omega))
        have HY5 := Lib.hid (HY4.out.below HLw5.out (by omega))
        have HN5 := Lib.hid (HN4.out.now HLw5.out)
        have HL5 := Lib.hid (HL4.out.now HLw5.out)
        have HB5 : Hid (Below w.heap.size w w5) := hide (HB4.out.trans (HLw5.out.mono HB4.out.size))
        clear HX4 HY4 HN4 HL4 HB4
        go_wp2_with fail
        go_roundw
        case rel => exact ⟨c + 1, qA, qn, qc, rA, rn, rc, by omega, by go_num, HX5.out, HY5.out, by rw [hlast.out, HE.out]; exact HN5.out, HL5.out, HB5.out⟩
        case measure => simp [intOf]; omega
    · obtain rfl : c = d := by omega
      go_wp2_with
        (first
         | (refine wpList_load_blk rfl 34 (.tmp 1) rfl w.heap.size rfl _ _ HXo.out _ Try.underlying34 rfl (by kernel_rfl) ?_)
         | (refine wpList_store_blk rfl 34 (.tmp 2) (.tmp 41) rfl (w.heap.size + 1) #[.slice qA qn qc, .slice rA rn rc, .int .i64 4, .int .i64 n1, .slice oA on oc, .int .i64 4, .int .i64 k1, .slice gA gn gc, .slice eA en ec, .bool true] rfl rfl _ _ HYo.out (by kernel_rfl) rfl (by simp [Value.oneCell']) ?_
            intro w7 hx7 hon7
            have HX7 := Lib.hid hx7
            have HN7 := Lib.hid (HNo.out.onlyT hon7 HYo.out (by decide) (by decide) (by decide))
            have HB7 : Hid (Below w.heap.size w w7) := hide (hon7.below HBo.out (by omega))
            clear hx7 hon7))
      refine bodyPost_ret (results_cell_row rfl _ _ (w.heap.size + 1) 34 _ (0, 0) _ rfl HX7.out Try.underlying34 rfl (by kernel_rfl)) rfl ?_
      exact HFin.out _ _ _ HN7.out HB7.out
end Go.Proofs.Ytedeggjefnpjgaa
