/-
  Chapter 29: Write of the program and of its reference, walked.
-/
import Derived.Test.YtdmkkpnjakdnnaaJouC
namespace Go.Proofs.Ytdmkkpnjakdnnaa
open Go.RowKit

abbrev Rd.cells (r : Rd) : List Value := [.int .i64 r.gate, .int .i64 r.seq, .int .i64 r.ser, .int .i64 r.cnt, .int .i64 r.prod, .int .i64 r.lift, .int .i64 r.att]
def rd0 : Rd := ⟨0, 0, 0, 0, 0, 0, 0⟩
theorem rd_at {l : List Rd} {k : Nat} (h : k < l.length) : l.take (k + 1) = l.take k ++ [l.getD k rd0] := by
  rw [List.take_succ_eq_append_getElem h]
  simp [List.getElem?_eq_getElem h]
theorem rd_mem {l : List Rd} {k : Nat} (h : k < l.length) : l.getD k rd0 ∈ l := by simp [List.getElem?_eq_getElem h]
theorem writeG_bad {l : List Rd} {r : Rd} (hm : r ∈ l) (h : okB r = false) : writeG l = ([], 2) := by
  unfold writeG
  rw [if_neg]
  intro hall
  have := List.all_eq_true.1 hall r hm
  rw [h] at this
  cases this
theorem writeG_ok {l : List Rd} (h : l.all okB = true) : writeG l = (wrR 0 l, 0) := by unfold writeG; rw [if_pos h]
theorem all_next {l : List Rd} {r : Rd} (h : l.all okB = true) (hr : okB r = true) : (l ++ [r]).all okB = true := by simp [h, hr]

set_option maxRecDepth 100000 in
set_option maxHeartbeats 2000000 in
theorem Write_any (v : Value) (l : List Rd) (w : World) (hv : StrV Rd.cells 7 w w.heap.size v l) (hlen : l.length ≤ 3000000000000) :
    Calls Try.prog 11 #[v] w fun e w' => ∃ x, e = .returned (.tuple #[x, .int .i64 (((writeG l).2 : Nat) : Int)]) ∧ OwnB w' w.heap.size x (writeG l).1 ∧ Below w.heap.size w w' := by
  obtain ⟨A, n, c, rfl, HN, hc1, hc2, hr⟩ := hv.nam
  have HR := Lib.hid hr
  have hn : n ≤ 3000000000000 := by rw [← HN.out]; exact hlen
  have HBad : Hid (∀ r ∈ l, okB r = false → writeG l = ([], 2)) := fun r hm h => writeG_bad hm h
  have HOk : Hid (l.all okB = true → writeG l = (wrR 0 l, 0)) := writeG_ok
  have HWl : Hid (∀ k : Nat, (l.take k).all okB = true → (wrR 0 (l.take k)).length ≤ 41 * k) := fun k h => by
    have h1 := wrR_len (l.take k) 0 fun r hr => List.all_eq_true.1 h r hr
    have h2 : (l.take k).length ≤ k := by rw [List.length_take]; exact Nat.min_le_left _ _
    omega
  obtain ⟨wg, hwg⟩ : ∃ x, writeG l = x := ⟨_, rfl⟩
  rw [hwg] at HBad HOk ⊢
  clear hwg hv hr hlen
  go_enter Try.func11, Try.ntmps11
  go_wp2_with fail
  go_loopw [4, 5, 10] (fun vb lk i wr => ∃ k : Nat, k ≤ n ∧ i = .int .i64 k ∧ lk = .int .u64 ((lkR 0 (l.take k) : Nat) : Int) ∧ (l.take k).all okB = true ∧ OwnB wr w.heap.size vb (wrR 0 (l.take k)) ∧ Below w.heap.size w wr) (fun _ _ i _ => n - (intOf i).toNat)
  case atStart => exact ⟨0, by omega, rfl, rfl, rfl, OwnB.nil _ _, Below.refl _ _⟩
  case round =>
    obtain ⟨k, hk, rfl, rfl, hall, hown, hbr⟩ := hrel
    obtain ⟨wo, rfl⟩ : ∃ wo : World, wo = wr := ⟨_, rfl⟩
    have HAll := Lib.hid hall
    have HO := Lib.hid hown
    have HB := Lib.hid hbr
    have HW := Lib.hid (HWl.out k hall)
    have HLt := Lib.hid (lkR_lt (l.take k) 0 (by omega))
    have hsz := hbr.size
    clear hall hown hbr
    by_cases hlt : k < n
    · obtain ⟨ad, rfl, hadb, hcl⟩ := strs_at (HR.out.below HB.out) (fun _ => rfl) HN.out hlt rd0
      have hadw : ad.block < w.heap.size := hadb
      have HNx : Hid (l.take (k + 1) = l.take k ++ [l.getD k rd0]) := rd_at (by rw [HN.out]; exact hlt)
      have HMem : Hid (l.getD k rd0 ∈ l) := rd_mem (by rw [HN.out]; exact hlt)
      generalize l.getD k rd0 = r at *
      have HBd : Hid (okB r = false → wg = ([], 2)) := fun h => HBad.out r HMem.out h
      obtain ⟨ok, hok⟩ : ∃ x, okB r = x := ⟨_, rfl⟩
      obtain ⟨T, hT⟩ : ∃ T, lkR 0 (l.take k) = T := ⟨_, rfl⟩
      have HIn : Hid (∀ W, Calls Try.prog 24 #[.agg #[.int .i64 r.gate, .int .i64 r.seq, .int .i64 r.ser, .int .i64 r.cnt, .int .i64 r.prod, .int .i64 r.lift, .int .i64 r.att]] W fun e w' => e = .returned (.bool ok) ∧ Below W.heap.size W w') := fun W => by rw [← hok]; exact inRange_any r W
      have HOkr := Lib.hid hok
      have HTe := Lib.hid hT
      rw [hT] at HLt ⊢
      have HCl := Lib.hid hcl
      clear hok hT hcl
      have hcv : ∀ (W : World), Below wo.heap.size wo W → ∀ j u, (Rd.cells r)[j]? = some u → W.cell? ((ad.add (k * 7)).add j) = some u := fun W hW j u hu => (hW.cell (p := (ad.add (k * 7)).add j) (by rw [block_of_add, block_of_add]; omega)).trans (HCl.out j u hu)
      have HCv := Lib.hid hcv
      clear hcv
      cases ok with
      | true =>
        go_wp2_with (first
          | (refine wpList_load_at 30 (.tmp 12) rfl rfl (ad.add (k * 7)) rfl (Rd.cells r) (HCv.out _ (Below.refl _ _)) _ Try.underlying30 rfl (by kernel_rfl) ?_)
          | (refine wpList_store_blk rfl 30 (.tmp 7) (.tmp 13) rfl wo.heap.size #[.int .i64 r.gate, .int .i64 r.seq, .int .i64 r.ser, .int .i64 r.cnt, .int .i64 r.prod, .int .i64 r.lift, .int .i64 r.att] rfl rfl _ _ (Blk.new wo 30 #[.int .i64 0, .int .i64 0, .int .i64 0, .int .i64 0, .int .i64 0, .int .i64 0, .int .i64 0]) (by kernel_rfl) rfl (by simp [Value.oneCell']) ?_
             intro w2 hx2 hon2
             have HX2 := Lib.hid hx2
             have hb2 := hon2.below (below_new wo (.cells #[.int .i64 0, .int .i64 0, .int .i64 0, .int .i64 0, .int .i64 0, .int .i64 0, .int .i64 0] 30)) (Nat.le_refl _)
             have hs2 : wo.heap.size < w2.heap.size := hx2.lt
             have HB2 := Lib.hid (HB.out.trans (hb2.mono HB.out.size))
             have HO2 := Lib.hid (own_below HO.out hb2 (Nat.le_refl _))
             clear hx2 hon2 hb2)
          | (refine wpList_load_g 30 (.tmp 7) rfl rfl wo.heap.size rfl _ _ HX2.out _ Try.underlying30 rfl (by kernel_rfl) ?_))
        with_reducible refine (HIn.out _).mono ?_
        rintro e w3 ⟨rfl, hb3⟩
        have HX3 := Lib.hid (HX2.out.below hb3 hs2)
        have HB3 := Lib.hid (HB2.out.trans (hb3.mono HB2.out.size))
        have HO3 : Hid (OwnB w3 w.heap.size u4 (wrR 0 (l.take k))) := hide (own_below HO2.out hb3 (Nat.le_refl _))
        clear hb3
        go_wp2_with (first
          | (refine wpList_load_g 30 (.tmp 7) rfl rfl wo.heap.size rfl _ _ HX3.out _ Try.underlying30 rfl (by kernel_rfl) ?_))
        with_reducible refine (write_any w.heap.size _ (wrR 0 (l.take k)) T r _ HO3.out HB3.out.size (by have := HW.out; omega) HLt.out HOkr.out).mono ?_
        rintro e w4 ⟨v4, rfl, hown4, hb4⟩
        have HN2 : Hid (wrR 0 (l.take (k + 1)) = wrR 0 (l.take k) ++ frmR T r) := by rw [HNx.out, wrR_snoc, HTe.out]; exact hide rfl
        have HL2 : Hid (lkR 0 (l.take (k + 1)) = lnkR T r) := by rw [HNx.out, lkR_snoc, HTe.out]; exact hide rfl
        have HA2 : Hid ((l.take (k + 1)).all okB = true) := by rw [HNx.out]; exact hide (all_next HAll.out HOkr.out)
        have HO4 : Hid (OwnB w4 w.heap.size v4 (wrR 0 (l.take (k + 1)))) := by
          show OwnB _ _ _ _
          rw [HN2.out]
          exact hown4
        have HB4 := Lib.hid (HB3.out.trans hb4)
        clear hown4 hb4
        go_wp2_with fail
        go_roundw
        case rel => exact ⟨k + 1, by omega, by go_num, by rw [HL2.out], HA2.out, HO4.out, HB4.out⟩
        case measure => simp [intOf]; omega
      | false =>
        have HW2 : Hid (wg = ([], 2)) := HBd.out HOkr.out
        go_wp2_with (first
          | (refine wpList_load_at 30 (.tmp 12) rfl rfl (ad.add (k * 7)) rfl (Rd.cells r) (HCv.out _ (Below.refl _ _)) _ Try.underlying30 rfl (by kernel_rfl) ?_)
          | (refine wpList_store_blk rfl 30 (.tmp 7) (.tmp 13) rfl wo.heap.size #[.int .i64 r.gate, .int .i64 r.seq, .int .i64 r.ser, .int .i64 r.cnt, .int .i64 r.prod, .int .i64 r.lift, .int .i64 r.att] rfl rfl _ _ (Blk.new wo 30 #[.int .i64 0, .int .i64 0, .int .i64 0, .int .i64 0, .int .i64 0, .int .i64 0, .int .i64 0]) (by kernel_rfl) rfl (by simp [Value.oneCell']) ?_
             intro w2 hx2 hon2
             have HX2 := Lib.hid hx2
             have hb2 := hon2.below (below_new wo (.cells #[.int .i64 0, .int .i64 0, .int .i64 0, .int .i64 0, .int .i64 0, .int .i64 0, .int .i64 0] 30)) (Nat.le_refl _)
             have HB2 := Lib.hid (HB.out.trans (hb2.mono HB.out.size))
             clear hx2 hon2 hb2)
          | (refine wpList_load_g 30 (.tmp 7) rfl rfl wo.heap.size rfl _ _ HX2.out _ Try.underlying30 rfl (by kernel_rfl) ?_))
        with_reducible refine (HIn.out _).mono ?_
        rintro e w3 ⟨rfl, hb3⟩
        have HB3 := Lib.hid (HB2.out.trans (hb3.mono HB2.out.size))
        clear hb3
        go_wp2_with fail
        go_ret2
        exact ⟨_, by rw [HW2.out]; rfl, by rw [HW2.out]; exact OwnB.nil _ _, HB3.out⟩
    · obtain rfl : k = n := by omega
      have HLe : Hid (l.take k = l) := by show _ = _; rw [List.take_of_length_le (by rw [HN.out]; exact Nat.le_refl _)]
      have HW2 : Hid (wg = (wrR 0 l, 0)) := HOk.out (by have := HAll.out; rwa [HLe.out] at this)
      go_wp2_with fail
      go_ret2
      exact ⟨_, by rw [HW2.out]; rfl, by rw [HW2.out]; have := HO.out; rwa [HLe.out] at this, HB.out⟩

set_option maxRecDepth 100000 in
set_option maxHeartbeats 2000000 in
theorem rWrite_any (v : Value) (l : List Rd) (w : World) (hv : StrV Rd.cells 7 w w.heap.size v l) (hlen : l.length ≤ 3000000000000) :
    Calls Try.prog 12 #[v] w fun e w' => ∃ x, e = .returned (.tuple #[x, .int .i64 (((writeG l).2 : Nat) : Int)]) ∧ OwnB w' w.heap.size x (writeG l).1 ∧ Below w.heap.size w w' := by
  obtain ⟨A, n, c, rfl, HN, hc1, hc2, hr⟩ := hv.nam
  have HR := Lib.hid hr
  have hn : n ≤ 3000000000000 := by rw [← HN.out]; exact hlen
  have HBad : Hid (∀ r ∈ l, okB r = false → writeG l = ([], 2)) := fun r hm h => writeG_bad hm h
  have HOk : Hid (l.all okB = true → writeG l = (wrR 0 l, 0)) := writeG_ok
  have HWl : Hid (∀ k : Nat, (l.take k).all okB = true → (wrR 0 (l.take k)).length ≤ 41 * k) := fun k h => by
    have h1 := wrR_len (l.take k) 0 fun r hr => List.all_eq_true.1 h r hr
    have h2 : (l.take k).length ≤ k := by rw [List.length_take]; exact Nat.min_le_left _ _
    omega
  obtain ⟨wg, hwg⟩ : ∃ x, writeG l = x := ⟨_, rfl⟩
  rw [hwg] at HBad HOk ⊢
  clear hwg hv hr hlen
  go_enter Try.func12, Try.ntmps12
  go_wp2_with fail
  go_loopw [4, 5, 6] (fun vb lk i wr => ∃ k : Nat, k ≤ n ∧ i = .int .i64 k ∧ lk = .int .u64 ((lkR 0 (l.take k) : Nat) : Int) ∧ (l.take k).all okB = true ∧ OwnB wr w.heap.size vb (wrR 0 (l.take k)) ∧ Below w.heap.size w wr) (fun _ _ i _ => n - (intOf i).toNat)
  case atStart => exact ⟨0, by omega, rfl, rfl, rfl, OwnB.nil _ _, Below.refl _ _⟩
  case round =>
    obtain ⟨k, hk, rfl, rfl, hall, hown, hbr⟩ := hrel
    obtain ⟨wo, rfl⟩ : ∃ wo : World, wo = wr := ⟨_, rfl⟩
    have HAll := Lib.hid hall
    obtain ⟨oA, on, oc, rfl, HoN, _, _, _⟩ := hown.nam
    have HO := Lib.hid hown
    have HB := Lib.hid hbr
    have HW := Lib.hid (HWl.out k hall)
    have HLt := Lib.hid (lkR_lt (l.take k) 0 (by omega))
    have hsz := hbr.size
    clear hall hown hbr
    by_cases hlt : k < n
    · obtain ⟨ad, rfl, hadb, hcl⟩ := strs_at (HR.out.below HB.out) (fun _ => rfl) HN.out hlt rd0
      have hadw : ad.block < w.heap.size := hadb
      have HNx : Hid (l.take (k + 1) = l.take k ++ [l.getD k rd0]) := rd_at (by rw [HN.out]; exact hlt)
      have HMem : Hid (l.getD k rd0 ∈ l) := rd_mem (by rw [HN.out]; exact hlt)
      generalize l.getD k rd0 = r at *
      have HBd : Hid (okB r = false → wg = ([], 2)) := fun h => HBad.out r HMem.out h
      obtain ⟨ok, hok⟩ : ∃ x, okB r = x := ⟨_, rfl⟩
      obtain ⟨T, hT⟩ : ∃ T, lkR 0 (l.take k) = T := ⟨_, rfl⟩
      have HIn : Hid (∀ W, Calls Try.prog 26 #[.agg #[.int .i64 r.gate, .int .i64 r.seq, .int .i64 r.ser, .int .i64 r.cnt, .int .i64 r.prod, .int .i64 r.lift, .int .i64 r.att]] W fun e w' => e = .returned (.bool ok) ∧ Below W.heap.size W w') := fun W => by rw [← hok]; exact rRight_any r W
      have HOkr := Lib.hid hok
      have HTe := Lib.hid hT
      rw [hT] at HLt ⊢
      have HCl := Lib.hid hcl
      clear hok hT hcl
      have hcv : ∀ (W : World), Below wo.heap.size wo W → ∀ j u, (Rd.cells r)[j]? = some u → W.cell? ((ad.add (k * 7)).add j) = some u := fun W hW j u hu => (hW.cell (p := (ad.add (k * 7)).add j) (by rw [block_of_add, block_of_add]; omega)).trans (HCl.out j u hu)
      have HCv := Lib.hid hcv
      clear hcv
      cases ok with
      | true =>
        have HFl : Hid ((frmR T r).length ≤ 41) := (frmR_le T HOkr.out).2
        go_wp2_with (refine wpList_load_at 30 (.tmp 17) rfl rfl (ad.add (k * 7)) rfl (Rd.cells r) (HCv.out _ (Below.refl _ _)) _ Try.underlying30 rfl (by kernel_rfl) ?_)
        with_reducible refine (HIn.out _).mono ?_
        rintro e w3 ⟨rfl, hb3⟩
        have HB3 := Lib.hid (HB.out.trans (hb3.mono HB.out.size))
        have HO3 := Lib.hid (own_below HO.out hb3 (Nat.le_refl _))
        have HD3 := Lib.hid hb3
        clear hb3
        go_wp2_with (refine wpList_load_at 30 (.tmp 25) rfl rfl (ad.add (k * 7)) rfl (Rd.cells r) (HCv.out _ HD3.out) _ Try.underlying30 rfl (by kernel_rfl) ?_)
        with_reducible refine (rframe29_any T r _ HLt.out HOkr.out).mono ?_
        rintro e w4 ⟨v4, rfl, hown4, hb4⟩
        have HN2 : Hid (wrR 0 (l.take (k + 1)) = wrR 0 (l.take k) ++ frmR T r) := by rw [HNx.out, wrR_snoc, HTe.out]; exact hide rfl
        have HL2 : Hid (lkR 0 (l.take (k + 1)) = lnkR T r) := by rw [HNx.out, lkR_snoc, HTe.out]; exact hide rfl
        have HA2 : Hid ((l.take (k + 1)).all okB = true) := by rw [HNx.out]; exact hide (all_next HAll.out HOkr.out)
        generalize frmR T r = fr at *
        generalize wrR 0 (l.take k) = wk at *
        obtain ⟨A5, n5, c5, rfl, HN5, _, _, hr5⟩ := hown4.nam
        have hn5 : n5 ≤ 41 := by rw [← HN5.out]; exact HFl.out
        have hon : on ≤ 41 * k := by rw [← HoN.out]; exact HW.out
        have HR5 := Lib.hid hr5
        have HO4 := Lib.hid (OwnB.row (own_below HO3.out hb4 (Nat.le_refl _)) HoN.out)
        have HB4 := Lib.hid (HB3.out.trans (hb4.mono HB3.out.size))
        have hs4 : w.heap.size ≤ w4.heap.size := HB4.out.size
        clear hown4 hb4 hr5
        go_wp2_with
          (at_builtin
           refine wpList_app _ ei_byte rfl (.tmp 30) (.tmp 31) rfl w.heap.size (.slice oA on oc) on (wk.map B8) rfl HO4.out w4.heap.size A5 n5 c5 (fr.map B8) rfl HR5.out (by intro u hu; obtain ⟨x, _, rfl⟩ := List.mem_map.1 hu; rfl) (by simp only [maxLen]; omega) (by omega) (by omega) ?_
           intro v6 w6 hown6 hg6 hbw6 hat6
           have HO6 : Hid (OwnB w6 w.heap.size v6 (wrR 0 (l.take (k + 1)))) := by
             show OwnB _ _ _ _
             rw [HN2.out]
             exact OwnB.mk' hown6 (by rw [List.length_append, HoN.out, HN5.out]) (by simp)
           have HB6 := Lib.hid (HB4.out.trans hbw6)
           clear hown6 hg6 hbw6 hat6)
        go_roundw
        case rel => exact ⟨k + 1, by omega, by go_num, by rw [HL2.out], HA2.out, HO6.out, HB6.out⟩
        case measure => simp [intOf]; omega
      | false =>
        have HW2 : Hid (wg = ([], 2)) := HBd.out HOkr.out
        go_wp2_with (refine wpList_load_at 30 (.tmp 17) rfl rfl (ad.add (k * 7)) rfl (Rd.cells r) (HCv.out _ (Below.refl _ _)) _ Try.underlying30 rfl (by kernel_rfl) ?_)
        with_reducible refine (HIn.out _).mono ?_
        rintro e w3 ⟨rfl, hb3⟩
        have HB3 := Lib.hid (HB.out.trans (hb3.mono HB.out.size))
        clear hb3
        go_wp2_with fail
        go_ret2
        exact ⟨_, by rw [HW2.out]; rfl, by rw [HW2.out]; exact OwnB.nil _ _, HB3.out⟩
    · obtain rfl : k = n := by omega
      have HLe : Hid (l.take k = l) := by show _ = _; rw [List.take_of_length_le (by rw [HN.out]; exact Nat.le_refl _)]
      have HW2 : Hid (wg = (wrR 0 l, 0)) := HOk.out (by have := HAll.out; rwa [HLe.out] at this)
      go_wp2_with fail
      go_ret2
      exact ⟨_, by rw [HW2.out]; rfl, by rw [HW2.out]; have := HO.out; rwa [HLe.out] at this, HB.out⟩
end Go.Proofs.Ytdmkkpnjakdnnaa
