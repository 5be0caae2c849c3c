/-
  Chapter 29: a frame behind a link, of the program (write) and of its reference (frame), walked.
-/
import Derived.Test.YtdmkkpnjakdnnaaJouB
namespace Go.Proofs.Ytdmkkpnjakdnnaa
open Go.RowKit

set_option maxRecDepth 100000 in
set_option maxHeartbeats 1000000 in
theorem rframe29_any (lk : Nat) (r : Rd) (w : World) (hlk : lk < 18446744073709551616) (hok : okB r = true) :
    Calls Try.prog 27 #[.int .u64 (lk : Int), .agg #[.int .i64 r.gate, .int .i64 r.seq, .int .i64 r.ser, .int .i64 r.cnt, .int .i64 r.prod, .int .i64 r.lift, .int .i64 r.att]] w fun e w' => ∃ v, e = .returned (.tuple #[v, .int .u64 ((lnkR lk r : Nat) : Int)]) ∧ OwnB w' w.heap.size v (frmR lk r) ∧ Below w.heap.size w w' := by
  have HT : Hid (∀ W, Calls Try.prog 36 #[.agg #[.int .i64 r.gate, .int .i64 r.seq, .int .i64 r.ser, .int .i64 r.cnt, .int .i64 r.prod, .int .i64 r.lift, .int .i64 r.att]] W fun e w' => ∃ v, e = .returned v ∧ OwnB w' W.heap.size v (textR r) ∧ Below W.heap.size W w') := fun W => rText_any r W hok
  have HTl : Hid ((textR r).length ≤ 28) := (textR_len hok).2
  have HFr : Hid (frmR lk r = frameN (textR r ++ be8 (tagN lk (textR r)))) := rfl
  have HLk : Hid (lnkR lk r = tagN lk (textR r)) := rfl
  clear hok
  generalize textR r = tx at *
  generalize frmR lk r = fr at *
  generalize lnkR lk r = ln at *
  have HTlt := Lib.hid (tagN_lt lk tx)
  obtain ⟨T, hTe⟩ : ∃ T, tagN lk tx = T := ⟨_, rfl⟩
  rw [hTe] at HFr HLk HTlt
  have HTe := Lib.hid hTe
  clear hTe
  obtain ⟨gate, seq, ser, cnt, prod, lift, att⟩ := r
  go_enter Try.func27, Try.ntmps27
  go_wp2_with fail
  have HBw0 := (Blk.new w 30 #[.int .i64 gate, .int .i64 seq, .int .i64 ser, .int .i64 cnt, .int .i64 prod, .int .i64 lift, .int .i64 att])
  have HLw0 := (below_new w (.cells #[.int .i64 gate, .int .i64 seq, .int .i64 ser, .int .i64 cnt, .int .i64 prod, .int .i64 lift, .int .i64 att] 30))
  have hsw0 : (w.alloc (.cells #[.int .i64 gate, .int .i64 seq, .int .i64 ser, .int .i64 cnt, .int .i64 prod, .int .i64 lift, .int .i64 att] 30)).heap.size = w.heap.size + 1 := by simp
  generalize w.alloc (.cells #[.int .i64 gate, .int .i64 seq, .int .i64 ser, .int .i64 cnt, .int .i64 prod, .int .i64 lift, .int .i64 att] 30) = w0 at HBw0 HLw0 hsw0 ⊢
  replace HBw0 := Lib.hid HBw0
  replace HLw0 := Lib.hid HLw0
  have hlw0 : w.heap.size < w0.heap.size := by omega
  replace hsw0 := Lib.hid hsw0
  have c0 : w0.cell? ⟨w.heap.size, 0, none⟩ = some (.int .i64 gate) := HBw0.out.cell 0
  have c1 : w0.cell? ⟨w.heap.size, 1, none⟩ = some (.int .i64 seq) := HBw0.out.cell 1
  have c2 : w0.cell? ⟨w.heap.size, 2, none⟩ = some (.int .i64 ser) := HBw0.out.cell 2
  have c3 : w0.cell? ⟨w.heap.size, 3, none⟩ = some (.int .i64 cnt) := HBw0.out.cell 3
  have c4 : w0.cell? ⟨w.heap.size, 4, none⟩ = some (.int .i64 prod) := HBw0.out.cell 4
  have c5 : w0.cell? ⟨w.heap.size, 5, none⟩ = some (.int .i64 lift) := HBw0.out.cell 5
  have c6 : w0.cell? ⟨w.heap.size, 6, none⟩ = some (.int .i64 att) := HBw0.out.cell 6
  go_wp2_with fail
  with_reducible refine (HT.out _).mono ?_
  rintro e w1 ⟨v1, rfl, hown1, hb1⟩
  have HB1 := Lib.hid (HLw0.out.trans (hb1.mono HLw0.out.size))
  have hl1 : w.heap.size ≤ w0.heap.size := HLw0.out.size
  have hl2 : w0.heap.size ≤ w1.heap.size := hb1.size
  clear hb1 c0 c1 c2 c3 c4 c5 c6
  obtain ⟨A, n, c, rfl, HN, hc1, hc2, hr⟩ := hown1.nam
  have hn : n ≤ 28 := by rw [← HN.out]; exact HTl.out
  have HO1 := Lib.hid hown1
  have HR1 := Lib.hid hr
  clear hown1 hr
  go_wp2_with fail
  with_reducible refine (rchain_any (lk : Int) (by omega) (by omega) A n c _ tx _ HR1.out hc1 (by omega)).mono ?_
  rintro e w' ⟨rfl, rfl⟩
  rw [Int.toNat_natCast, HTe.out]
  go_wp2_with fail
  with_reducible refine (rtail_any T HTlt.out _).mono ?_
  rintro e w2 ⟨v2, rfl, hown2, hb2⟩
  have hl3 : w1.heap.size ≤ w2.heap.size := hb2.size
  have HB2 := Lib.hid (HB1.out.trans (hb2.mono HB1.out.size))
  have HO2 := Lib.hid (own_below HO1.out hb2 (Nat.le_refl _))
  obtain ⟨A2, n2, c2, rfl, HN2, _, _, hr2⟩ := hown2.nam
  have hn2 : n2 = 8 := by rw [← HN2.out, be8_len]
  subst hn2
  have HR2 := Lib.hid hr2
  clear hown2 hb2 hr2
  have HOn := Lib.hid (OwnB.row HO2.out HN.out)
  go_wp2_with
    (at_builtin
     refine wpList_app _ ei_byte rfl (.tmp 13) (.tmp 15) rfl w0.heap.size (.slice A n c) n (tx.map B8) rfl HOn.out w2.heap.size A2 8 c2 ((be8 T).map B8) rfl HR2.out (by intro u hu; obtain ⟨x, _, rfl⟩ := List.mem_map.1 hu; rfl) (by simp only [maxLen]; omega) (by omega) (by omega) ?_
     intro v3 w3 hown3 hg3 hbw3 hat3
     have HO3 : Hid (OwnB w3 w0.heap.size v3 (tx ++ be8 T)) := hide (OwnB.mk' hown3 (by rw [List.length_append, HN.out, be8_len]) (by simp))
     have HB3 := Lib.hid (HB2.out.trans (hbw3.mono hl1))
     have hl4 : w2.heap.size ≤ w3.heap.size := hg3.size
     obtain ⟨A3, n3, c3, rfl, HN3, _, _, hr3⟩ := HO3.out.nam
     have hn3 : n3 ≤ 36 := by rw [← HN3.out, List.length_append, be8_len]; have := HTl.out; omega
     have HR3 := Lib.hid hr3
     clear hown3 hg3 hbw3 hat3 hr3)
  with_reducible refine (rframe_any A3 n3 c3 _ _ HR3.out (by omega)).mono ?_
  rintro e w4 ⟨v4, rfl, hown4, hb4⟩
  have HO4 : Hid (OwnB w4 w.heap.size v4 fr) := by
    show OwnB _ _ _ _
    rw [HFr.out]
    exact hown4.mono HB3.out.size
  have HB4 := Lib.hid (HB3.out.trans (hb4.mono HB3.out.size))
  clear hown4 hb4
  go_wp2_with fail
  go_ret2
  exact ⟨_, by rw [HLk.out]; rfl, HO4.out, HB4.out⟩

set_option maxRecDepth 100000 in
set_option maxHeartbeats 2000000 in
theorem write_any (base : Nat) (vb : Value) (b : List UInt8) (lk : Nat) (r : Rd) (w : World) (hown0 : OwnB w base vb b) (hb0 : base ≤ w.heap.size) (hbl : b.length ≤ 140737488355000) (hlk : lk < 18446744073709551616) (hok : okB r = true) :
    Calls Try.prog 25 #[vb, .agg #[.int .i64 r.gate, .int .i64 r.seq, .int .i64 r.ser, .int .i64 r.cnt, .int .i64 r.prod, .int .i64 r.lift, .int .i64 r.att], .int .u64 (lk : Int)] w fun e w' => ∃ v, e = .returned (.tuple #[v, .int .u64 ((lnkR lk r : Nat) : Int)]) ∧ OwnB w' base v (b ++ frmR lk r) ∧ Below base w w' := by
  have HF : Hid (∀ W, Calls Try.prog 32 #[.agg #[.int .i64 r.gate, .int .i64 r.seq, .int .i64 r.ser, .int .i64 r.cnt, .int .i64 r.prod, .int .i64 r.lift, .int .i64 r.att]] W fun e w' => e = .returned (.agg (fsV r)) ∧ Below W.heap.size W w') := fun W => fields_any r W
  have HI : Hid (∀ k : Nat, k < 7 → ∀ W, (Instr.index 53 (.agg (fsV r)) (.int .i64 (k : Int))).run Try.prog W = .ok (.int .i64 (r.fs.getD k 0)) W) := fun k hk W => fs_index r k hk W
  have HS : Hid (∀ k : Nat, k < 7 → txtK r (k + 1) = txtK r k ++ putN (r.fs.getD k 0).toNat) := fun k hk => txtK_succ r k hk
  have HE : Hid (txtK r 7 = textR r) := txtK_end r
  have H0 : Hid (txtK r 0 = []) := rfl
  have HLn : Hid (∀ k, (txtK r k).length ≤ 70) := txtK_len r
  have HBd : Hid (∀ k : Nat, k < 7 → 0 ≤ r.fs.getD k 0 ∧ r.fs.getD k 0 ≤ 20000000) := fun k hk => fs_bd hok k hk
  have HTl : Hid ((textR r).length ≤ 28) := (textR_len hok).2
  have HFr : Hid (frmR lk r = frameN (textR r ++ be8 (tagN lk (textR r)))) := rfl
  have HFl : Hid ((frmR lk r).length ≤ 41) := (frmR_le lk hok).2
  have HLk : Hid (lnkR lk r = tagN lk (textR r)) := rfl
  clear hok
  generalize fsV r = fv at *
  generalize txtK r = tk at *
  generalize textR r = tx at *
  generalize frmR lk r = fr at *
  generalize lnkR lk r = ln at *
  have HTlt := Lib.hid (tagN_lt lk tx)
  obtain ⟨T, hTe⟩ : ∃ T, tagN lk tx = T := ⟨_, rfl⟩
  rw [hTe] at HFr HLk HTlt
  have HTe := Lib.hid hTe
  clear hTe
  generalize hfs : (fun k => r.fs.getD k 0) = fk
  have HK : Hid (∀ k, r.fs.getD k 0 = fk k) := fun k => by rw [← hfs]
  clear hfs
  obtain ⟨bA, bn, bc, rfl, HbN, _, _, _⟩ := hown0.nam
  have HOb := Lib.hid hown0
  clear hown0
  obtain ⟨gate, seq, ser, cnt, prod, lift, att⟩ := r
  go_enter Try.func25, Try.ntmps25
  go_wp2_with fail
  have HBw0 := (Blk.new w 30 #[.int .i64 gate, .int .i64 seq, .int .i64 ser, .int .i64 cnt, .int .i64 prod, .int .i64 lift, .int .i64 att])
  have HLw0 := (below_new w (.cells #[.int .i64 gate, .int .i64 seq, .int .i64 ser, .int .i64 cnt, .int .i64 prod, .int .i64 lift, .int .i64 att] 30))
  have hsw0 : (w.alloc (.cells #[.int .i64 gate, .int .i64 seq, .int .i64 ser, .int .i64 cnt, .int .i64 prod, .int .i64 lift, .int .i64 att] 30)).heap.size = w.heap.size + 1 := by simp
  generalize w.alloc (.cells #[.int .i64 gate, .int .i64 seq, .int .i64 ser, .int .i64 cnt, .int .i64 prod, .int .i64 lift, .int .i64 att] 30) = w0 at HBw0 HLw0 hsw0 ⊢
  replace HBw0 := Lib.hid HBw0
  replace HLw0 := Lib.hid HLw0
  have hlw0 : w.heap.size < w0.heap.size := by omega
  replace hsw0 := Lib.hid hsw0
  have c0 : w0.cell? ⟨w.heap.size, 0, none⟩ = some (.int .i64 gate) := HBw0.out.cell 0
  have c1 : w0.cell? ⟨w.heap.size, 1, none⟩ = some (.int .i64 seq) := HBw0.out.cell 1
  have c2 : w0.cell? ⟨w.heap.size, 2, none⟩ = some (.int .i64 ser) := HBw0.out.cell 2
  have c3 : w0.cell? ⟨w.heap.size, 3, none⟩ = some (.int .i64 cnt) := HBw0.out.cell 3
  have c4 : w0.cell? ⟨w.heap.size, 4, none⟩ = some (.int .i64 prod) := HBw0.out.cell 4
  have c5 : w0.cell? ⟨w.heap.size, 5, none⟩ = some (.int .i64 lift) := HBw0.out.cell 5
  have c6 : w0.cell? ⟨w.heap.size, 6, none⟩ = some (.int .i64 att) := HBw0.out.cell 6
  go_wp2_with fail
  with_reducible refine (HF.out _).mono ?_
  rintro e w1 ⟨rfl, hb1⟩
  have HB1 := Lib.hid (HLw0.out.trans (hb1.mono HLw0.out.size))
  have hl1 : w.heap.size ≤ w1.heap.size := HB1.out.size
  clear hb1 c0 c1 c2 c3 c4 c5 c6
  go_wp2_with fail
  go_loopw [8, 14] (fun v i wr => ∃ k : Nat, k ≤ 7 ∧ i = .int .i64 k ∧ OwnB wr w1.heap.size v (tk k) ∧ Below w1.heap.size w1 wr) (fun _ i _ => 7 - (intOf i).toNat)
  case atStart => exact ⟨0, by omega, rfl, by rw [H0.out]; exact OwnB.nil _ _, Below.refl _ _⟩
  case round =>
    obtain ⟨k, hk, rfl, hown, hbr⟩ := hrel
    obtain ⟨wo, rfl⟩ : ∃ wo : World, wo = wr := ⟨_, rfl⟩
    obtain ⟨A, n, c, rfl, HN, hc1, hc2, hr⟩ := hown.nam
    have HO := Lib.hid hown
    have HR := Lib.hid hr
    have HB := Lib.hid hbr
    have hn70 : n ≤ 70 := by rw [← HN.out]; exact HLn.out k
    have hsz := hbr.size
    clear hown hr hbr
    by_cases hlt : k < 7
    · have hidx := HI.out k hlt
      have hs := HS.out k hlt
      have hz := HBd.out k hlt
      rw [HK.out k] at hidx hs hz
      have HT := Lib.hid hs
      clear hs
      generalize fk k = z at *
      go_wp2_with fail
      with_reducible refine (Put_any A n c _ _ z z.toNat _ HR.out (by omega) (Nat.le_refl _) (by omega) rfl).mono ?_
      rintro e w3 ⟨v3, rfl, hown3, hb3⟩
      have HO3 : Hid (OwnB w3 w1.heap.size v3 (tk (k + 1))) := by
        show OwnB _ _ _ _
        rw [HT.out]
        exact hown3.mono hsz
      have HB3 := Lib.hid (HB.out.trans (hb3.mono hsz))
      clear hown3 hb3
      go_wp2_with fail
      go_roundw
      case rel => exact ⟨k + 1, by omega, by go_num, HO3.out, HB3.out⟩
      case measure => simp [intOf]; omega
    · obtain rfl : k = 7 := by omega
      have HOx : Hid (OwnB wo w1.heap.size (.slice A n c) tx) := by
        show OwnB _ _ _ _
        rw [← HE.out]
        exact HO.out
      have HNx : Hid (tx.length = n) := by rw [← HE.out]; exact HN
      have HRx : Hid (Bytes wo wo.heap.size A n tx) := by rw [← HE.out]; exact HR
      have HB7 := Lib.hid (HB1.out.trans (HB.out.mono HB1.out.size))
      clear HO HN HR
      go_wp2_with fail
      with_reducible refine (chain_any (lk : Int) (by omega) (by omega) A n c _ tx _ HRx.out hc1 (by omega)).mono ?_
      rintro e w' ⟨rfl, rfl⟩
      rw [Int.toNat_natCast, HTe.out]
      have hT2 := HTlt.out
      go_wp2_with fail
      go_loopw [8, 11] (fun v i wr => ∃ k : Nat, k ≤ 8 ∧ i = .int .i64 (7 - (k : Int)) ∧ OwnB wr w1.heap.size v (tx ++ beL T k) ∧ Below w1.heap.size w1 wr) (fun _ i _ => (intOf i + 1).toNat)
      case atStart => exact ⟨0, by omega, rfl, by rw [beL, List.append_nil]; exact HOx.out, HB.out⟩
      case round =>
        obtain ⟨k, hk, rfl, hown, hbr⟩ := hrel
        obtain ⟨wi, rfl⟩ : ∃ wi : World, wi = wr := ⟨_, rfl⟩
        have HBi := Lib.hid hbr
        obtain ⟨A3, n3, c3, rfl, HN3, hc31, hc32, hr3⟩ := hown.nam
        have hn3 : n3 ≤ 36 := by rw [← HN3.out, List.length_append, beL_len]; have := HTl.out; omega
        have HO := Lib.hid (hown.row HN3.out)
        have HRd := Lib.hid hr3
        have hszi := hbr.size
        clear hown hbr hr3
        by_cases hlt : k < 8
        · obtain ⟨j, hj⟩ : ∃ j : Nat, 7 - (k : Int) = (j : Int) := ⟨7 - k, by omega⟩
          rw [hj]
          have hj7 : j ≤ 7 := by omega
          have hjk : j = 7 - k := by omega
          have HJ := Lib.hid hj
          have HJK := Lib.hid hjk
          clear hj hjk
          go_wp2_with
            (at_builtin
             refine wpList_app_lit ei_byte rfl (.tmp 28) (.tmp 34) rfl w1.heap.size (.slice A3 n3 c3) n3 ((tx ++ beL T k).map B8) rfl HO.out 1 rfl rfl (by simp [Value.oneCell']) (by simp only [maxLen]; omega) (by omega) (by omega) ?_
             intro v4 w4 hown4 hb4 hg4 hat4
             have HO4 := Lib.hid hown4
             have HB4 := Lib.hid (HBi.out.trans hb4)
             clear hown4 hb4 hg4 hat4)
          go_roundw
          case rel =>
            have hF := beB_form T j (8 * j) rfl
            have hJ := HJK.out
            subst hJ
            refine ⟨k + 1, by omega, ?_, ?_, HB4.out⟩
            · have := HJ.out
              congr 1
              omega
            · refine OwnB.mk' HO4.out ?_ ?_
              · rw [List.length_append, beL_len, ← HN3.out, List.length_append, beL_len]
                omega
              · show _ ++ [_] = _
                rw [hF, beL, ← List.append_assoc]
                simp
          case measure => simp [intOf]
        · obtain rfl : k = 8 := by omega
          have HB8 := Lib.hid (HB1.out.trans (HBi.out.mono HB1.out.size))
          go_wp2_with fail
          with_reducible refine (frame_any A3 n3 c3 _ _ HRd.out (by omega)).mono ?_
          rintro e w5 ⟨v5, rfl, hown5, hb5⟩
          have HB9 := Lib.hid (HB8.out.trans (hb5.mono HB8.out.size))
          have HO5 : Hid (OwnB w5 wi.heap.size v5 fr) := by
            show OwnB _ _ _ _
            rw [HFr.out, ← beL_8]
            exact hown5
          obtain ⟨A5, n5, c5, rfl, HN5, _, _, hr5⟩ := HO5.out.nam
          have hn5 : n5 ≤ 41 := by rw [← HN5.out]; exact HFl.out
          have HR5 := Lib.hid hr5
          have HOb5 := Lib.hid (OwnB.row (own_below HOb.out HB9.out (Nat.le_refl _)) HbN.out)
          have hsz5 : w.heap.size ≤ w5.heap.size := HB9.out.size
          have hbn : bn ≤ 140737488355000 := by rw [← HbN.out]; exact hbl
          clear hown5 hb5 hr5
          go_wp2_with
            (at_builtin
             refine wpList_app _ ei_byte rfl (.tmp 36) (.tmp 38) rfl base (.slice bA bn bc) bn (b.map B8) rfl HOb5.out w5.heap.size A5 n5 c5 (fr.map B8) rfl HR5.out (by intro u hu; obtain ⟨x, _, rfl⟩ := List.mem_map.1 hu; rfl) (by simp only [maxLen]; omega) (by omega) (by omega) ?_
             intro v6 w6 hown6 hg6 hbw6 hat6
             have HO6 : Hid (OwnB w6 base v6 (b ++ fr)) := hide (OwnB.mk' hown6 (by rw [List.length_append, HbN.out, HN5.out]) (by simp))
             have HB6 := Lib.hid ((HB9.out.mono hb0).trans hbw6)
             clear hown6 hg6 hbw6 hat6)
          go_ret2
          exact ⟨_, by rw [HLk.out]; rfl, HO6.out, HB6.out⟩
end Go.Proofs.Ytdmkkpnjakdnnaa
